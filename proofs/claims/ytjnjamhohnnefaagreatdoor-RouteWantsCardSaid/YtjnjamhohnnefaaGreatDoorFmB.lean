/-
  The document's Match.
-/
import Derived.Test.YtjnjamhohnnefaaGreatDoorFmA
namespace Go.Proofs.YtjnjamhohnnefaaGreatDoor
set_option linter.unusedSimpArgs false
set_option linter.unusedVariables false
open Go.RowKit

theorem cutsB_eq (n : Int) (r : Rng) : cutsB n r = (decide (0 ≤ n) && decide (n ≤ 200) && decide (r.lo ≤ n) && decide (n ≤ r.hi)) := by
  unfold cutsB cleanR
  rw [Bool.eq_iff_iff]
  simp only [Bool.and_eq_true, decide_eq_true_eq]
  omega
theorem hitB_eq (x : FileI) (c : ClauseI) : hitB x c = (cov c.pre x.p && (x.dead || (decide (0 ≤ x.size) && decide (x.size ≤ 200) && decide (c.lo ≤ x.size) && decide (x.size ≤ c.hi)))) := by
  unfold hitB
  rw [cutsB_eq]
theorem rcoversR_c (p s : ByteArray) (w : World) (hs : s.size ≤ maxLen) (hp : p.size ≤ maxLen) : Calls Tryz.prog 47 #[.string p, .string s] w (Ret (.bool (cov p s)) w) :=
  (rcovers_c p s w hs hp).mono fun e w' hh => ⟨hh.1, by rw [hh.2]; exact Ext.refl _⟩
set_option maxRecDepth 100000 in
set_option maxHeartbeats 4000000 in
theorem rmatch09M_c (w : World) (v : Value) (f : List ClauseI) (x : FileI) (h : Sl w 3 v (f.map ClauseI.cells)) (hx : x.p.size ≤ maxLen) (hf : LightF f) : Calls Tryz.prog 18 #[v, x.val] w (Ret (.bool (f.any (hitB x))) w) := by
  obtain ⟨A, c, rfl, h1, h2, h3⟩ := sl_get h
  unfold maxLen at h2
  have HF := hid hf
  have R1 : Hid (∀ k (h : k < f.length), hitB x f[k] = true → f.any (hitB x) = true) := fun k h e => List.any_eq_true.2 ⟨_, List.getElem_mem h, e⟩
  have R2 : Hid ((∀ y ∈ f, hitB x y = false) → f.any (hitB x) = false) := fun h => List.any_eq_false.2 fun y hy => by simp [h y hy]
  generalize f.any (hitB x) = r at R1 R2 ⊢
  clear h hf
  unfold FileI.val
  go_enter Tryz.func18, Tryz.ntmps18
  go_wp2_with fail
  have HE0 := hid (Ext.alloc w (.cells #[.string x.p, .int .i64 x.size, .bool x.dead] 32))
  have HB0 := hid (Blk.new w 32 #[.string x.p, .int .i64 x.size, .bool x.dead])
  generalize w.alloc (.cells #[.string x.p, .int .i64 x.size, .bool x.dead] 32) = w0 at HE0 HB0 ⊢
  generalize w.heap.size = g0 at HB0 ⊢
  go_loopw [5] (fun i wr => ∃ k : Nat, k ≤ f.length ∧ i = .int .i64 k ∧ Ext w0 wr ∧ Hid (∀ y ∈ f.take k, hitB x y = false)) (fun i _ => f.length - (intOf i).toNat)
  case atStart => exact ⟨0, by omega, rfl, Ext.refl _, fun y hy => by simp at hy⟩
  case round =>
    obtain ⟨k, hk, rfl, hE, hno⟩ := hrel
    have HE := hid hE
    have HEw := hid (HE0.out.trans hE)
    by_cases hlt : k < f.length
    · obtain ⟨b, o, rfl, lb, hcell⟩ := h3 (by omega)
      have c0 := HEw.out.cell (hcell k hlt 0 _ rfl)
      have c1 := HEw.out.cell (hcell k hlt 1 _ rfl)
      have c2 := HEw.out.cell (hcell k hlt 2 _ rfl)
      rw [Nat.add_zero] at c0
      have lbr := Nat.lt_of_lt_of_le lb HEw.out.size
      have hb := HB0.out.ext hE
      have q0 := hb.cell (i := 0) (v := .string x.p) rfl
      have q1 := hb.cell (i := 1) (v := .int .i64 x.size) rfl
      have q2 := hb.cell (i := 2) (v := .bool x.dead) rfl
      have lq := hb.lt
      have HY := hid (R1.out k hlt)
      have HN2 : Hid (hitB x f[k] = false → ∀ y ∈ f.take (k + 1), hitB x y = false) := fun hf y hy => by
        rw [List.take_succ_eq_append_getElem hlt] at hy
        rcases List.mem_append.1 hy with hy | hy
        · exact hno.out y hy
        · rw [List.mem_singleton.1 hy]; exact hf
      have hcs := HF.out _ (List.getElem_mem hlt)
      clear hcell h3 hE hb R1 R2 hno lb
      generalize f[k] = z at c0 c1 c2 HY HN2 hcs
      have HC := fun W => hid (rcoversR_c z.pre x.p W hx (by unfold maxLen; omega))
      clear hcs
      have hdd : True := trivial
      cases hc : cov z.pre x.p with
      | false =>
        rw [hc] at HC
        have HNx := hid (HN2.out (by rw [hitB_eq]; simp [*]))
        clear HY HN2 hdd
        go_wp2_with fail
        refine wp_region_any_order (by kernel_rfl) (by kernel_rfl) (by kernel_rfl) ?_
        repeat (first
          | (refine AWq.val rfl rfl rfl rfl (fun K hK => ?_); go_big_quiet_op; refine hK _ ?_; clear hK K)
          | (refine AWq.skip rfl rfl rfl ?_; simp only [Act.put, List.setIfInBounds_toArray, List.set_cons_succ, List.set_cons_zero])
          | (refine AWq.call rfl Tryz.func47 (by kernel_rfl) (by kernel_rfl) rfl rfl rfl ?_; apply Exists.intro; refine And.intro (fun wc hc => ?_) ?_; (· (simp only [argsOf, anyAt, ↓reduceIte, Nat.reduceEqDiff, Array.getD_eq_getD_getElem?, List.getElem?_toArray, List.getElem?_cons_succ, List.getElem?_cons_zero, Option.getD_some]; with_reducible exact (HC _).out)); simp only [Act.put, List.setIfInBounds_toArray, List.set_cons_succ, List.set_cons_zero]))
        refine AWq.done rfl rfl rfl (fun w2 x2 => ?_)
        simp only [closeAny, Act.put, List.setIfInBounds_toArray, List.set_cons_succ, List.set_cons_zero]
        go_wp2_with fail
        go_roundw
        case rel => exact ⟨k + 1, by omega, by go_num, HE.out.trans x2, HNx.out⟩
        case measure => simp [intOf]; omega
      | true =>
        rw [hc] at HC
        cases hd : x.dead with
        | true =>
          rw [hd] at q2
          have HYx := hid (HY.out (by rw [hitB_eq]; simp [*]))
          clear HY HN2 hdd
          go_wp2_with fail
          refine wp_region_any_order (by kernel_rfl) (by kernel_rfl) (by kernel_rfl) ?_
          repeat (first
            | (refine AWq.val rfl rfl rfl rfl (fun K hK => ?_); go_big_quiet_op; refine hK _ ?_; clear hK K)
            | (refine AWq.skip rfl rfl rfl ?_; simp only [Act.put, List.setIfInBounds_toArray, List.set_cons_succ, List.set_cons_zero])
            | (refine AWq.call rfl Tryz.func47 (by kernel_rfl) (by kernel_rfl) rfl rfl rfl ?_; apply Exists.intro; refine And.intro (fun wc hc => ?_) ?_; (· (simp only [argsOf, anyAt, ↓reduceIte, Nat.reduceEqDiff, Array.getD_eq_getD_getElem?, List.getElem?_toArray, List.getElem?_cons_succ, List.getElem?_cons_zero, Option.getD_some]; with_reducible exact (HC _).out)); simp only [Act.put, List.setIfInBounds_toArray, List.set_cons_succ, List.set_cons_zero]))
          refine AWq.done rfl rfl rfl (fun w2 x2 => ?_)
          simp only [closeAny, Act.put, List.setIfInBounds_toArray, List.set_cons_succ, List.set_cons_zero]
          go_wp2_with fail
          go_ret
          exact ⟨by rw [HYx.out]; rfl, HEw.out.trans x2⟩
        | false =>
          rw [hd] at q2
          cases e1 : decide (0 ≤ x.size) with
          | false =>
            have HNx := hid (HN2.out (by rw [hitB_eq]; simp [*]))
            clear HY HN2 hdd
            go_wp2_with fail
            refine wp_region_any_order (by kernel_rfl) (by kernel_rfl) (by kernel_rfl) ?_
            repeat (first
              | (refine AWq.val rfl rfl rfl rfl (fun K hK => ?_); go_big_quiet_op; refine hK _ ?_; clear hK K)
              | (refine AWq.skip rfl rfl rfl ?_; simp only [Act.put, List.setIfInBounds_toArray, List.set_cons_succ, List.set_cons_zero])
              | (refine AWq.call rfl Tryz.func47 (by kernel_rfl) (by kernel_rfl) rfl rfl rfl ?_; apply Exists.intro; refine And.intro (fun wc hc => ?_) ?_; (· (simp only [argsOf, anyAt, ↓reduceIte, Nat.reduceEqDiff, Array.getD_eq_getD_getElem?, List.getElem?_toArray, List.getElem?_cons_succ, List.getElem?_cons_zero, Option.getD_some]; with_reducible exact (HC _).out)); simp only [Act.put, List.setIfInBounds_toArray, List.set_cons_succ, List.set_cons_zero]))
            refine AWq.done rfl rfl rfl (fun w2 x2 => ?_)
            simp only [closeAny, Act.put, List.setIfInBounds_toArray, List.set_cons_succ, List.set_cons_zero]
            go_wp2_with fail
            go_roundw
            case rel => exact ⟨k + 1, by omega, by go_num, HE.out.trans x2, HNx.out⟩
            case measure => simp [intOf]; omega
          | true =>
            cases e2 : decide (x.size ≤ 200) with
            | false =>
              have HNx := hid (HN2.out (by rw [hitB_eq]; simp [*]))
              clear HY HN2 hdd
              go_wp2_with fail
              refine wp_region_any_order (by kernel_rfl) (by kernel_rfl) (by kernel_rfl) ?_
              repeat (first
                | (refine AWq.val rfl rfl rfl rfl (fun K hK => ?_); go_big_quiet_op; refine hK _ ?_; clear hK K)
                | (refine AWq.skip rfl rfl rfl ?_; simp only [Act.put, List.setIfInBounds_toArray, List.set_cons_succ, List.set_cons_zero])
                | (refine AWq.call rfl Tryz.func47 (by kernel_rfl) (by kernel_rfl) rfl rfl rfl ?_; apply Exists.intro; refine And.intro (fun wc hc => ?_) ?_; (· (simp only [argsOf, anyAt, ↓reduceIte, Nat.reduceEqDiff, Array.getD_eq_getD_getElem?, List.getElem?_toArray, List.getElem?_cons_succ, List.getElem?_cons_zero, Option.getD_some]; with_reducible exact (HC _).out)); simp only [Act.put, List.setIfInBounds_toArray, List.set_cons_succ, List.set_cons_zero]))
              refine AWq.done rfl rfl rfl (fun w2 x2 => ?_)
              simp only [closeAny, Act.put, List.setIfInBounds_toArray, List.set_cons_succ, List.set_cons_zero]
              go_wp2_with fail
              go_roundw
              case rel => exact ⟨k + 1, by omega, by go_num, HE.out.trans x2, HNx.out⟩
              case measure => simp [intOf]; omega
            | true =>
              cases e3 : decide (z.lo ≤ x.size) with
              | false =>
                have HNx := hid (HN2.out (by rw [hitB_eq]; simp [*]))
                clear HY HN2 hdd
                go_wp2_with fail
                refine wp_region_any_order (by kernel_rfl) (by kernel_rfl) (by kernel_rfl) ?_
                repeat (first
                  | (refine AWq.val rfl rfl rfl rfl (fun K hK => ?_); go_big_quiet_op; refine hK _ ?_; clear hK K)
                  | (refine AWq.skip rfl rfl rfl ?_; simp only [Act.put, List.setIfInBounds_toArray, List.set_cons_succ, List.set_cons_zero])
                  | (refine AWq.call rfl Tryz.func47 (by kernel_rfl) (by kernel_rfl) rfl rfl rfl ?_; apply Exists.intro; refine And.intro (fun wc hc => ?_) ?_; (· (simp only [argsOf, anyAt, ↓reduceIte, Nat.reduceEqDiff, Array.getD_eq_getD_getElem?, List.getElem?_toArray, List.getElem?_cons_succ, List.getElem?_cons_zero, Option.getD_some]; with_reducible exact (HC _).out)); simp only [Act.put, List.setIfInBounds_toArray, List.set_cons_succ, List.set_cons_zero]))
                refine AWq.done rfl rfl rfl (fun w2 x2 => ?_)
                simp only [closeAny, Act.put, List.setIfInBounds_toArray, List.set_cons_succ, List.set_cons_zero]
                go_wp2_with fail
                go_roundw
                case rel => exact ⟨k + 1, by omega, by go_num, HE.out.trans x2, HNx.out⟩
                case measure => simp [intOf]; omega
              | true =>
                cases e4 : decide (x.size ≤ z.hi) with
                | false =>
                  have HNx := hid (HN2.out (by rw [hitB_eq]; simp [*]))
                  clear HY HN2 hdd
                  go_wp2_with fail
                  refine wp_region_any_order (by kernel_rfl) (by kernel_rfl) (by kernel_rfl) ?_
                  repeat (first
                    | (refine AWq.val rfl rfl rfl rfl (fun K hK => ?_); go_big_quiet_op; refine hK _ ?_; clear hK K)
                    | (refine AWq.skip rfl rfl rfl ?_; simp only [Act.put, List.setIfInBounds_toArray, List.set_cons_succ, List.set_cons_zero])
                    | (refine AWq.call rfl Tryz.func47 (by kernel_rfl) (by kernel_rfl) rfl rfl rfl ?_; apply Exists.intro; refine And.intro (fun wc hc => ?_) ?_; (· (simp only [argsOf, anyAt, ↓reduceIte, Nat.reduceEqDiff, Array.getD_eq_getD_getElem?, List.getElem?_toArray, List.getElem?_cons_succ, List.getElem?_cons_zero, Option.getD_some]; with_reducible exact (HC _).out)); simp only [Act.put, List.setIfInBounds_toArray, List.set_cons_succ, List.set_cons_zero]))
                  refine AWq.done rfl rfl rfl (fun w2 x2 => ?_)
                  simp only [closeAny, Act.put, List.setIfInBounds_toArray, List.set_cons_succ, List.set_cons_zero]
                  go_wp2_with fail
                  go_roundw
                  case rel => exact ⟨k + 1, by omega, by go_num, HE.out.trans x2, HNx.out⟩
                  case measure => simp [intOf]; omega
                | true =>
                  have HYx := hid (HY.out (by rw [hitB_eq]; simp [*]))
                  clear HY HN2 hdd
                  go_wp2_with fail
                  refine wp_region_any_order (by kernel_rfl) (by kernel_rfl) (by kernel_rfl) ?_
                  repeat (first
                    | (refine AWq.val rfl rfl rfl rfl (fun K hK => ?_); go_big_quiet_op; refine hK _ ?_; clear hK K)
                    | (refine AWq.skip rfl rfl rfl ?_; simp only [Act.put, List.setIfInBounds_toArray, List.set_cons_succ, List.set_cons_zero])
                    | (refine AWq.call rfl Tryz.func47 (by kernel_rfl) (by kernel_rfl) rfl rfl rfl ?_; apply Exists.intro; refine And.intro (fun wc hc => ?_) ?_; (· (simp only [argsOf, anyAt, ↓reduceIte, Nat.reduceEqDiff, Array.getD_eq_getD_getElem?, List.getElem?_toArray, List.getElem?_cons_succ, List.getElem?_cons_zero, Option.getD_some]; with_reducible exact (HC _).out)); simp only [Act.put, List.setIfInBounds_toArray, List.set_cons_succ, List.set_cons_zero]))
                  refine AWq.done rfl rfl rfl (fun w2 x2 => ?_)
                  simp only [closeAny, Act.put, List.setIfInBounds_toArray, List.set_cons_succ, List.set_cons_zero]
                  go_wp2_with fail
                  go_ret
                  exact ⟨by rw [HYx.out]; rfl, HEw.out.trans x2⟩
    · obtain rfl : k = f.length := by omega
      rw [List.take_length] at hno
      have hr := hid (R2.out hno.out)
      clear hE h3 hno R1 R2
      go_wp2_with fail
      go_ret
      exact ⟨by rw [hr.out]; rfl, HEw.out⟩
theorem rmatch09_c (w : World) (v : Value) (f : List ClauseI) (x : FileI) (h : Sl w 3 v (f.map ClauseI.cells)) (hx : x.p.size ≤ 1000) (hf : LightF f) : Calls Tryz.prog 18 #[v, x.val] w (Ret (.bool (f.any (hitB x))) w) := rmatch09M_c w v f x h (by unfold maxLen; omega) hf
end Go.Proofs.YtjnjamhohnnefaaGreatDoor
