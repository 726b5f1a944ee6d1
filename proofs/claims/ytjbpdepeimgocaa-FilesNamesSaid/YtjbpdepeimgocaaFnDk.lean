/-
  files.Leaves: whether an update is the first one of its path; how two leaves stand.
-/
import Derived.Test.YtjbpdepeimgocaaFnCk
import Derived.Test.YtjbpdepeimgocaaBaseD
import Derived.Sort.Grow
namespace Go.Proofs.Ytjbpdepeimgocaa
set_option linter.unusedSimpArgs false
set_option linter.unusedVariables false
open Go.RowKit Go.Sort

/-- Does x take u's path from it? -/
def takesB (u x : UpdI) : Bool := decide (x.p = u.p) && !decide (x.item = u.item) && older u.st x.st
def firstB (l : List UpdI) (u : UpdI) : Bool := l.all fun x => !takesB u x
theorem firstB_no {l : List UpdI} {u : UpdI} {k : Nat} (h : k < l.length) (ht : takesB u l[k] = true) : firstB l u = false := by
  unfold firstB
  rw [List.all_eq_false]
  exact ⟨_, List.getElem_mem h, by simp [ht]⟩
theorem firstB_yes {l : List UpdI} {u : UpdI} (h : ∀ j (hj : j < l.length), takesB u l[j] = false) : firstB l u = true := by
  unfold firstB
  rw [List.all_eq_true]
  intro x hx
  obtain ⟨j, hj, rfl⟩ := List.getElem_of_mem hx
  simp [h j hj]
set_option maxRecDepth 100000 in
set_option maxHeartbeats 4000000 in
theorem first_c (w : World) (q : Nat) (v : Value) (l : List UpdI) (u : UpdI) (hq : Blk w q 22 #[v]) (h : Sl w 8 v (l.map UpdI.cells)) : Calls Try.prog 14 #[u.val, .pointer (some ⟨q, 0, none⟩)] w (Ret (.bool (firstB l u)) w) := by
  obtain ⟨A, c, rfl, h1, h2, h3⟩ := sl_get h
  unfold maxLen at h2
  have e1 := Ext.alloc w (.cells #[.int .i64 u.item.by_, .int .i64 u.item.n, .int .i64 u.st.v.by_, .int .i64 u.st.v.n, .int .i64 u.st.time, .string u.p, .string u.d, .bool u.dead] 30)
  have hu := Blk.new w 30 #[.int .i64 u.item.by_, .int .i64 u.item.n, .int .i64 u.st.v.by_, .int .i64 u.st.v.n, .int .i64 u.st.time, .string u.p, .string u.d, .bool u.dead]
  have q0 := (hq.ext e1).cell (i := 0) (v := .slice A l.length c) rfl
  have lq := (hq.ext e1).lt
  have HU := hid hu
  have HE1 := hid e1
  have HW := fun x W => hid (wins_c x u W)
  clear h hq hu e1
  unfold UpdI.val at HW ⊢
  go_enter Try.func14, Try.ntmps14
  go_wp2_with fail
  obtain ⟨g, hg⟩ : ∃ q, q = w.heap.size := ⟨_, rfl⟩
  rw [← hg] at HU ⊢
  clear hg q0 lq
  generalize w.alloc (.cells #[.int .i64 u.item.by_, .int .i64 u.item.n, .int .i64 u.st.v.by_, .int .i64 u.st.v.n, .int .i64 u.st.time, .string u.p, .string u.d, .bool u.dead] 30) = w0 at HU HE1 ⊢
  go_loopw [8] (fun i wr => ∃ k : Nat, k ≤ l.length ∧ i = .int .i64 k ∧ Ext w0 wr ∧ ∀ j (hj : j < l.length), j < k → takesB u l[j] = false) (fun i _ => l.length - (intOf i).toNat)
  case atStart => exact ⟨0, by omega, rfl, Ext.refl _, fun j _ hj => by omega⟩
  case round =>
    obtain ⟨k, hk, rfl, hE, hno⟩ := hrel
    have HE := hid hE
    have HNo := hid hno
    by_cases hlt : k < l.length
    · obtain ⟨b, o, rfl, lb, hcell⟩ := h3 (by omega)
      have hEw := HE1.out.trans hE
      have c0 := hEw.cell (hcell k hlt 0 _ rfl)
      have c1 := hEw.cell (hcell k hlt 1 _ rfl)
      have c2 := hEw.cell (hcell k hlt 2 _ rfl)
      have c3 := hEw.cell (hcell k hlt 3 _ rfl)
      have c4 := hEw.cell (hcell k hlt 4 _ rfl)
      have c5 := hEw.cell (hcell k hlt 5 _ rfl)
      have c6 := hEw.cell (hcell k hlt 6 _ rfl)
      have c7 := hEw.cell (hcell k hlt 7 _ rfl)
      rw [Nat.add_zero] at c0
      have lbr := Nat.lt_of_lt_of_le lb hEw.size
      have HF : Hid (takesB u l[k] = true → firstB l u = false) := fun e => firstB_no hlt e
      have HNx : Hid (takesB u l[k] = false → ∀ j (hj : j < l.length), j < k + 1 → takesB u l[j] = false) := fun e j hj hjk => by
        by_cases hjk' : j = k
        · subst hjk'; exact e
        · exact hno j hj (by omega)
      have hU1 := (HU.out.ext hE).alloc (.cells #[.int .i64 l[k].item.by_, .int .i64 l[k].item.n, .int .i64 l[k].st.v.by_, .int .i64 l[k].st.v.n, .int .i64 l[k].st.time, .string l[k].p, .string l[k].d, .bool l[k].dead] 30)
      have u0 := hU1.cell (i := 0) (v := .int .i64 u.item.by_) rfl
      have u1 := hU1.cell (i := 1) (v := .int .i64 u.item.n) rfl
      have u2 := hU1.cell (i := 2) (v := .int .i64 u.st.v.by_) rfl
      have u3 := hU1.cell (i := 3) (v := .int .i64 u.st.v.n) rfl
      have u4 := hU1.cell (i := 4) (v := .int .i64 u.st.time) rfl
      have u5 := hU1.cell (i := 5) (v := .string u.p) rfl
      have u6 := hU1.cell (i := 6) (v := .string u.d) rfl
      have u7 := hU1.cell (i := 7) (v := .bool u.dead) rfl
      have lu := hU1.lt
      have ng : ¬ wr.heap.size = g := by have := (HU.out.ext hE).lt; omega
      have HWk := HW l[k]
      clear hcell h3 hE hno hEw hU1 HW
      generalize l[k] = x at *
      by_cases hp : x.p = u.p
      · have d1 : (x.p.toList == u.p.toList) = true := by rw [hp]; simp
        by_cases hi : x.item = u.item
        · have d2 : eq2 x.item.by_ x.item.n u.item.by_ u.item.n = true := (eq2_iff _ _).2 hi
          have HNx := hid (HNx.out (by unfold takesB; simp [hi]))
          clear HF HWk hp hi
          go_wp2_with fail
          go_roundw
          case rel => exact ⟨k + 1, by omega, by go_num, HE.out.alloc' _, HNx.out⟩
          case measure => simp [intOf]; omega
        · have d2 : eq2 x.item.by_ x.item.n u.item.by_ u.item.n = false := by rw [Bool.eq_false_iff, Ne, eq2_iff]; exact hi
          cases ho : older u.st x.st with
          | true =>
            have HF := hid (HF.out (by unfold takesB; simp [hp, hi, ho]))
            rw [ho] at HWk
            clear HNx hp hi ho
            go_wp2_with (go_at_call 15; refine (HWk _).out.mono ?_; rintro e w2 ⟨rfl, hx2⟩; have HX2 := hid hx2; clear hx2)
            go_ret
            exact ⟨by rw [HF.out]; rfl, HE1.out.trans (HE.out.trans ((Ext.alloc _ _).trans HX2.out))⟩
          | false =>
            have HNx := hid (HNx.out (by unfold takesB; simp [ho]))
            rw [ho] at HWk
            clear HF hp hi ho
            go_wp2_with (go_at_call 15; refine (HWk _).out.mono ?_; rintro e w2 ⟨rfl, hx2⟩; have HX2 := hid hx2; clear hx2)
            go_roundw
            case rel => exact ⟨k + 1, by omega, by go_num, HE.out.trans ((Ext.alloc _ _).trans HX2.out), HNx.out⟩
            case measure => simp [intOf]; omega
      · have d1 : (x.p.toList == u.p.toList) = false := by rw [beq_toList]; simp [hp]
        have HNx := hid (HNx.out (by unfold takesB; simp [hp]))
        clear HF HWk hp
        go_wp2_with fail
        go_roundw
        case rel => exact ⟨k + 1, by omega, by go_num, HE.out.alloc' _, HNx.out⟩
        case measure => simp [intOf]; omega
    · obtain rfl : k = l.length := by omega
      have HF := hid (firstB_yes fun j hj => hno j hj hj)
      clear hE h3 hno
      go_wp2_with fail
      go_ret
      exact ⟨by rw [HF.out]; rfl, HE1.out.trans HE.out⟩
end Go.Proofs.Ytjbpdepeimgocaa
