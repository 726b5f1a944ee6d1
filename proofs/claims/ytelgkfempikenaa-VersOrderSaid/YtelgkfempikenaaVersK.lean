/-
  The walk of the law VersOrder.
-/
import Derived.Test.YtelgkfempikenaaVersE
import Derived.Test.YtelgkfempikenaaVersJ
namespace Go.Proofs.Ytelgkfempikenaa
set_option linter.unusedSimpArgs false
set_option linter.unusedVariables false
open Go.RowKit

def seenK (l : List Stamp) (s : Stamp) (k : Nat) : Bool := (l.take k).any fun x => eq3 x.v.by_ x.v.n x.time s.v.by_ s.v.n s.time
theorem seenK_succ (l : List Stamp) (s : Stamp) (k : Nat) (h : k < l.length) : seenK l s (k + 1) = (seenK l s k || eq3 l[k].v.by_ l[k].v.n l[k].time s.v.by_ s.v.n s.time) := by
  unfold seenK
  rw [List.take_succ_eq_append_getElem h, List.any_append]
  simp
theorem seenK_all (l : List Stamp) (s : Stamp) (h : s ∈ l) : seenK l s l.length = true := by
  unfold seenK
  rw [List.take_length, List.any_eq_true]
  exact ⟨s, h, by rw [eq3_iff]⟩


set_option maxRecDepth 100000 in
set_option maxHeartbeats 4000000 in
theorem order_walk (l : List Stamp) (v : Value) (w : World) (hs : Sl w 3 v (Stamps l)) (hl : l.length ≤ 30) (hp : 0 < l.length) (s : Stamp) (hsl : s ∈ l) (hmax : ∀ x ∈ l, s.lt x = false)
    (hn : ∀ W, Ext w W → Hid (Calls Try.prog 7 #[v] W (Ret (.tuple #[.agg #[.int .i64 s.v.by_, .int .i64 s.v.n, .int .i64 s.time], .bool true]) W))) :
    Calls Try.prog 3 #[v] w (Ret (.bool true) w) := by
  have hs0 := hs
  obtain ⟨A, c, rfl, hlc, hm, hc⟩ := sl_stamp hs
  obtain ⟨b, o, rfl, hbl, hcell⟩ := hc hp
  clear hs hc
  unfold maxLen at hm
  have hgt : decide ((0 : Int) < (l.length : Int)) = true := by simp; omega
  go_enter Try.func3, Try.ntmps3
  go_wp2_with (go_at_call 7; refine (hn _ (Ext.refl _)).out.mono ?_; rintro e v1 ⟨rfl, y1⟩)
  have hB := Blk.new v1 26 #[.int .i64 s.v.by_, .int .i64 s.v.n, .int .i64 s.time]
  have y2 := y1.alloc' (.cells #[.int .i64 s.v.by_, .int .i64 s.v.n, .int .i64 s.time] 26)
  generalize v1.alloc (.cells #[.int .i64 s.v.by_, .int .i64 s.v.n, .int .i64 s.time] 26) = w1 at hB y2 ⊢
  generalize v1.heap.size = B at hB ⊢
  clear y1
  have q0 := hB.cell (i := 0) (v := .int .i64 s.v.by_) rfl
  have q1 := hB.cell (i := 1) (v := .int .i64 s.v.n) rfl
  have q2 := hB.cell (i := 2) (v := .int .i64 s.time) rfl
  have hBl := hB.lt
  have hb1 : b < w1.heap.size := Nat.lt_of_lt_of_le hbl y2.size
  clear hB
  go_loopw [5, 6] (fun f i wr => ∃ k : Nat, k ≤ l.length ∧ i = .int .i64 k ∧ f = .bool (seenK l s k) ∧ Ext w1 wr) (fun _ i _ => l.length - (intOf i).toNat)
  case atStart => exact ⟨0, by omega, rfl, rfl, Ext.refl _⟩
  case round =>
    obtain ⟨k, hk, rfl, rfl, hE⟩ := hrel
    by_cases hlt : k < l.length
    · have hkl : k < l.length := by omega
      have c0 := y2.cell (hcell k hkl).1
      have c1 := y2.cell (hcell k hkl).2.1
      have c2 := y2.cell (hcell k hkl).2.2
      have hO : ∀ W, Hid (Calls Try.prog 8 #[.agg #[.int .i64 s.v.by_, .int .i64 s.v.n, .int .i64 s.time], .agg #[.int .i64 l[k].v.by_, .int .i64 l[k].v.n, .int .i64 l[k].time]] W (Ret (.bool false) W)) := fun W => by
        have := older_c s l[k] W
        rw [hmax _ (List.getElem_mem hkl)] at this
        exact hid this
      have HF := hid (seenK_succ l s k hkl)
      have HE := hid hE
      have hr := hE.rule
      have hbr : b < wr.heap.size := Nat.lt_of_lt_of_le hb1 hE.size
      have hBr : B < wr.heap.size := Nat.lt_of_lt_of_le hBl hE.size
      clear hE
      generalize seenK l s k = F0 at HF ⊢
      go_wp2_with fail
      refine wp_region_any_order (by kernel_rfl) (by kernel_rfl) (by kernel_rfl) ?_
      repeat (first
        | (refine AWq.val rfl rfl rfl rfl (fun K hK => ?_); go_big_quiet_op; refine hK _ ?_; clear hK K)
        | (refine AWq.skip rfl rfl rfl ?_; simp only [Act.put, List.setIfInBounds_toArray, List.set_cons_succ, List.set_cons_zero])
        | (refine AWq.gval rfl rfl rfl rfl rfl rfl rfl ?_; apply Exists.intro; refine And.intro (fun hg => ?_) ?_; (· (first | (go_big_quiet_op; exact rfl) | (have hg' := hg; simp only [decide_eq_true_eq, decide_eq_false_iff_not, Bool.and_eq_true, Bool.or_eq_true, Bool.not_eq_true', Bool.and_eq_false_iff, Bool.or_eq_false_iff] at hg'; go_big_quiet_op; exact rfl))); simp only [Act.put, List.setIfInBounds_toArray, List.set_cons_succ, List.set_cons_zero]))
      refine AWq.done rfl rfl rfl (fun w2 x2 => ?_)
      simp only [closeAny, Act.put, List.setIfInBounds_toArray, List.set_cons_succ, List.set_cons_zero]
      have hE2 := HE.out.trans x2
      have hr2 := hE2.rule
      have hb2 : b < w2.heap.size := Nat.lt_of_lt_of_le hb1 hE2.size
      have hB2 : B < w2.heap.size := Nat.lt_of_lt_of_le hBl hE2.size
      have HE2 := hid hE2
      clear hE2 hr hbr hBr x2
      go_wp2_with fail
      refine wp_region_any_order (by kernel_rfl) (by kernel_rfl) (by kernel_rfl) ?_
      repeat (first
        | (refine AWq.val rfl rfl rfl rfl (fun K hK => ?_); go_big_quiet_op; refine hK _ ?_; clear hK K)
        | (refine AWq.skip rfl rfl rfl ?_; simp only [Act.put, List.setIfInBounds_toArray, List.set_cons_succ, List.set_cons_zero])
        | (refine AWq.call rfl Try.func8 (by kernel_rfl) (by kernel_rfl) rfl rfl rfl ?_; apply Exists.intro; refine And.intro (fun wc hc => ?_) ?_; (· (simp only [argsOf, anyAt, ↓reduceIte, Nat.reduceEqDiff, Array.getD_eq_getD_getElem?, List.getElem?_toArray, List.getElem?_cons_succ, List.getElem?_cons_zero, Option.getD_some]; with_reducible exact (hO _).out)); simp only [Act.put, List.setIfInBounds_toArray, List.set_cons_succ, List.set_cons_zero]))
      refine AWq.done rfl rfl rfl (fun w3 x3 => ?_)
      simp only [closeAny, Act.put, List.setIfInBounds_toArray, List.set_cons_succ, List.set_cons_zero]
      have HE3 := hid (HE2.out.trans x3)
      clear hr2 hb2 hB2 x3
      go_wp2_with fail
      obtain ⟨wo, rfl⟩ : ∃ wo : World, wo = w3 := ⟨_, rfl⟩
      go_loopw [7] (fun i wi => ∃ j : Nat, j ≤ l.length ∧ i = .int .i64 j ∧ Ext w1 wi) (fun i _ => l.length - (intOf i).toNat)
      case atStart => exact ⟨0, by omega, rfl, HE3.out⟩
      case round =>
        obtain ⟨j, hj, rfl, hE⟩ := hrel
        by_cases hjlt : j < l.length
        · have hjl : j < l.length := by omega
          have d0 := y2.cell (hcell j hjl).1
          have d1 := y2.cell (hcell j hjl).2.1
          have d2 := y2.cell (hcell j hjl).2.2
          have HO := fun W => hid (older_c l[k] l[j] W)
          have HC := fun W => hid (vcompare_c l[k] l[j] W)
          unfold Stamp.val at HO HC
          have hr := hE.rule
          have hbr : b < wr.heap.size := Nat.lt_of_lt_of_le hb1 hE.size
          have hBr : B < wr.heap.size := Nat.lt_of_lt_of_le hBl hE.size
          have HE := hid hE
          clear hE
          rcases cmpStamp_cases l[k] l[j] with ⟨a1, a3⟩ | ⟨a1, a2, a3⟩ | ⟨a1, a2, a3⟩
          · rw [a1] at HO
            rw [a3] at HC
            clear a1 a3
            go_wp2_with fail
            refine wp_region_any_order (by kernel_rfl) (by kernel_rfl) (by kernel_rfl) ?_
            repeat (first
              | (refine AWq.val rfl rfl rfl rfl (fun K hK => ?_); go_big_quiet_op; refine hK _ ?_; clear hK K)
              | (refine AWq.skip rfl rfl rfl ?_; simp only [Act.put, List.setIfInBounds_toArray, List.set_cons_succ, List.set_cons_zero])
              | (refine AWq.call rfl Try.func8 (by kernel_rfl) (by kernel_rfl) rfl rfl rfl ?_; apply Exists.intro; refine And.intro (fun wc hc => ?_) ?_; (· (simp only [argsOf, anyAt, ↓reduceIte, Nat.reduceEqDiff, Array.getD_eq_getD_getElem?, List.getElem?_toArray, List.getElem?_cons_succ, List.getElem?_cons_zero, Option.getD_some]; with_reducible exact (HO _).out)); simp only [Act.put, List.setIfInBounds_toArray, List.set_cons_succ, List.set_cons_zero]))
            refine AWq.done rfl rfl rfl (fun w4 x4 => ?_)
            simp only [closeAny, Act.put, List.setIfInBounds_toArray, List.set_cons_succ, List.set_cons_zero]
            have hE4 := HE.out.trans x4
            have hr4 := hE4.rule
            have hb4 : b < w4.heap.size := Nat.lt_of_lt_of_le hb1 hE4.size
            have HE4 := hid hE4
            clear hE4 hr hbr hBr x4
            go_wp2_with fail
            refine wp_region_any_order (by kernel_rfl) (by kernel_rfl) (by kernel_rfl) ?_
            repeat (first
              | (refine AWq.val rfl rfl rfl rfl (fun K hK => ?_); go_big_quiet_op; refine hK _ ?_; clear hK K)
              | (refine AWq.skip rfl rfl rfl ?_; simp only [Act.put, List.setIfInBounds_toArray, List.set_cons_succ, List.set_cons_zero])
              | (refine AWq.call rfl Try.func9 (by kernel_rfl) (by kernel_rfl) rfl rfl rfl ?_; apply Exists.intro; refine And.intro (fun wc hc => ?_) ?_; (· (simp only [argsOf, anyAt, ↓reduceIte, Nat.reduceEqDiff, Array.getD_eq_getD_getElem?, List.getElem?_toArray, List.getElem?_cons_succ, List.getElem?_cons_zero, Option.getD_some]; with_reducible exact (HC _).out)); simp only [Act.put, List.setIfInBounds_toArray, List.set_cons_succ, List.set_cons_zero]))
            refine AWq.done rfl rfl rfl (fun w6 x6 => ?_)
            simp only [closeAny, Act.put, List.setIfInBounds_toArray, List.set_cons_succ, List.set_cons_zero]
            have HE6 := hid (HE4.out.trans x6)
            clear x6
            go_wp2_with fail
            go_roundw
            case rel => exact ⟨j + 1, by omega, by go_num, HE6.out⟩
            case measure => simp [intOf]; omega
          · rw [a1] at HO
            rw [a3] at HC
            clear a1 a3
            go_wp2_with fail
            refine wp_region_any_order (by kernel_rfl) (by kernel_rfl) (by kernel_rfl) ?_
            repeat (first
              | (refine AWq.val rfl rfl rfl rfl (fun K hK => ?_); go_big_quiet_op; refine hK _ ?_; clear hK K)
              | (refine AWq.skip rfl rfl rfl ?_; simp only [Act.put, List.setIfInBounds_toArray, List.set_cons_succ, List.set_cons_zero])
              | (refine AWq.call rfl Try.func8 (by kernel_rfl) (by kernel_rfl) rfl rfl rfl ?_; apply Exists.intro; refine And.intro (fun wc hc => ?_) ?_; (· (simp only [argsOf, anyAt, ↓reduceIte, Nat.reduceEqDiff, Array.getD_eq_getD_getElem?, List.getElem?_toArray, List.getElem?_cons_succ, List.getElem?_cons_zero, Option.getD_some]; with_reducible exact (HO _).out)); simp only [Act.put, List.setIfInBounds_toArray, List.set_cons_succ, List.set_cons_zero]))
            refine AWq.done rfl rfl rfl (fun w4 x4 => ?_)
            simp only [closeAny, Act.put, List.setIfInBounds_toArray, List.set_cons_succ, List.set_cons_zero]
            have hE4 := HE.out.trans x4
            have hr4 := hE4.rule
            have hb4 : b < w4.heap.size := Nat.lt_of_lt_of_le hb1 hE4.size
            have HE4 := hid hE4
            clear hE4 hr hbr hBr x4
            go_wp2_with fail
            refine wp_region_any_order (by kernel_rfl) (by kernel_rfl) (by kernel_rfl) ?_
            repeat (first
              | (refine AWq.val rfl rfl rfl rfl (fun K hK => ?_); go_big_quiet_op; refine hK _ ?_; clear hK K)
              | (refine AWq.skip rfl rfl rfl ?_; simp only [Act.put, List.setIfInBounds_toArray, List.set_cons_succ, List.set_cons_zero]))
            refine AWq.done rfl rfl rfl (fun w5 x5 => ?_)
            simp only [closeAny, Act.put, List.setIfInBounds_toArray, List.set_cons_succ, List.set_cons_zero]
            have hE5 := HE4.out.trans x5
            have hr5 := hE5.rule
            have hb5 : b < w5.heap.size := Nat.lt_of_lt_of_le hb1 hE5.size
            have HE4 := hid hE5
            clear hE5 x5 hr4 hb4
            go_wp2_with fail
            refine wp_region_any_order (by kernel_rfl) (by kernel_rfl) (by kernel_rfl) ?_
            repeat (first
              | (refine AWq.val rfl rfl rfl rfl (fun K hK => ?_); go_big_quiet_op; refine hK _ ?_; clear hK K)
              | (refine AWq.skip rfl rfl rfl ?_; simp only [Act.put, List.setIfInBounds_toArray, List.set_cons_succ, List.set_cons_zero])
              | (refine AWq.call rfl Try.func9 (by kernel_rfl) (by kernel_rfl) rfl rfl rfl ?_; apply Exists.intro; refine And.intro (fun wc hc => ?_) ?_; (· (simp only [argsOf, anyAt, ↓reduceIte, Nat.reduceEqDiff, Array.getD_eq_getD_getElem?, List.getElem?_toArray, List.getElem?_cons_succ, List.getElem?_cons_zero, Option.getD_some]; with_reducible exact (HC _).out)); simp only [Act.put, List.setIfInBounds_toArray, List.set_cons_succ, List.set_cons_zero]))
            refine AWq.done rfl rfl rfl (fun w6 x6 => ?_)
            simp only [closeAny, Act.put, List.setIfInBounds_toArray, List.set_cons_succ, List.set_cons_zero]
            have HE6 := hid (HE4.out.trans x6)
            clear x6
            go_wp2_with fail
            go_roundw
            case rel => exact ⟨j + 1, by omega, by go_num, HE6.out⟩
            case measure => simp [intOf]; omega
          · rw [a1] at HO
            rw [a3] at HC
            clear a1 a3
            go_wp2_with fail
            refine wp_region_any_order (by kernel_rfl) (by kernel_rfl) (by kernel_rfl) ?_
            repeat (first
              | (refine AWq.val rfl rfl rfl rfl (fun K hK => ?_); go_big_quiet_op; refine hK _ ?_; clear hK K)
              | (refine AWq.skip rfl rfl rfl ?_; simp only [Act.put, List.setIfInBounds_toArray, List.set_cons_succ, List.set_cons_zero])
              | (refine AWq.call rfl Try.func8 (by kernel_rfl) (by kernel_rfl) rfl rfl rfl ?_; apply Exists.intro; refine And.intro (fun wc hc => ?_) ?_; (· (simp only [argsOf, anyAt, ↓reduceIte, Nat.reduceEqDiff, Array.getD_eq_getD_getElem?, List.getElem?_toArray, List.getElem?_cons_succ, List.getElem?_cons_zero, Option.getD_some]; with_reducible exact (HO _).out)); simp only [Act.put, List.setIfInBounds_toArray, List.set_cons_succ, List.set_cons_zero]))
            refine AWq.done rfl rfl rfl (fun w4 x4 => ?_)
            simp only [closeAny, Act.put, List.setIfInBounds_toArray, List.set_cons_succ, List.set_cons_zero]
            have hE4 := HE.out.trans x4
            have hr4 := hE4.rule
            have hb4 : b < w4.heap.size := Nat.lt_of_lt_of_le hb1 hE4.size
            have HE4 := hid hE4
            clear hE4 hr hbr hBr x4
            go_wp2_with fail
            refine wp_region_any_order (by kernel_rfl) (by kernel_rfl) (by kernel_rfl) ?_
            repeat (first
              | (refine AWq.val rfl rfl rfl rfl (fun K hK => ?_); go_big_quiet_op; refine hK _ ?_; clear hK K)
              | (refine AWq.skip rfl rfl rfl ?_; simp only [Act.put, List.setIfInBounds_toArray, List.set_cons_succ, List.set_cons_zero]))
            refine AWq.done rfl rfl rfl (fun w5 x5 => ?_)
            simp only [closeAny, Act.put, List.setIfInBounds_toArray, List.set_cons_succ, List.set_cons_zero]
            have hE5 := HE4.out.trans x5
            have hr5 := hE5.rule
            have hb5 : b < w5.heap.size := Nat.lt_of_lt_of_le hb1 hE5.size
            have HE4 := hid hE5
            clear hE5 x5 hr4 hb4
            go_wp2_with fail
            refine wp_region_any_order (by kernel_rfl) (by kernel_rfl) (by kernel_rfl) ?_
            repeat (first
              | (refine AWq.val rfl rfl rfl rfl (fun K hK => ?_); go_big_quiet_op; refine hK _ ?_; clear hK K)
              | (refine AWq.skip rfl rfl rfl ?_; simp only [Act.put, List.setIfInBounds_toArray, List.set_cons_succ, List.set_cons_zero])
              | (refine AWq.call rfl Try.func9 (by kernel_rfl) (by kernel_rfl) rfl rfl rfl ?_; apply Exists.intro; refine And.intro (fun wc hc => ?_) ?_; (· (simp only [argsOf, anyAt, ↓reduceIte, Nat.reduceEqDiff, Array.getD_eq_getD_getElem?, List.getElem?_toArray, List.getElem?_cons_succ, List.getElem?_cons_zero, Option.getD_some]; with_reducible exact (HC _).out)); simp only [Act.put, List.setIfInBounds_toArray, List.set_cons_succ, List.set_cons_zero]))
            refine AWq.done rfl rfl rfl (fun w6 x6 => ?_)
            simp only [closeAny, Act.put, List.setIfInBounds_toArray, List.set_cons_succ, List.set_cons_zero]
            have HE6 := hid (HE4.out.trans x6)
            clear x6
            go_wp2_with fail
            go_roundw
            case rel => exact ⟨j + 1, by omega, by go_num, HE6.out⟩
            case measure => simp [intOf]; omega
        · obtain rfl : j = l.length := by omega
          have HE := hid hE
          clear hE
          go_wp2_with fail
          go_roundw
          case rel => exact ⟨k + 1, by omega, by go_num, by rw [HF.out], HE.out⟩
          case measure => simp [intOf]; omega
    · obtain rfl : k = l.length := by omega
      have HE := hid hE
      clear hE
      have hsa := seenK_all l s hsl
      skip
      rw [hsa]
      clear hsa
      go_wp2_with (go_at_call 10; refine (awake_c _).mono ?_; rintro e v2 ⟨rfl, z2⟩)
      go_ret
      exact ⟨rfl, (y2.trans HE.out).trans z2⟩

set_option maxRecDepth 100000 in
set_option maxHeartbeats 4000000 in
theorem order_walk_long (N b o c : Nat) (l : List Stamp) (w : World) (hN : 30 < N) (hm : N ≤ 9223372036854775807) (hNc : N ≤ c) (hL : l.length = 30) (hbl : b < w.heap.size)
    (hcell : ∀ k (h : k < l.length), w.cell? ⟨b, o + k * 3, none⟩ = some (.int .i64 l[k].v.by_) ∧ w.cell? ⟨b, o + k * 3 + 1, none⟩ = some (.int .i64 l[k].v.n) ∧ w.cell? ⟨b, o + k * 3 + 2, none⟩ = some (.int .i64 l[k].time))
    (s : Stamp) (hsl : s ∈ l) (hmax : ∀ x ∈ l, s.lt x = false)
    (hn : ∀ W, Ext w W → Hid (Calls Try.prog 7 #[.slice (some ⟨b, o, none⟩) 30 c] W (Ret (.tuple #[.agg #[.int .i64 s.v.by_, .int .i64 s.v.n, .int .i64 s.time], .bool true]) W))) :
    Calls Try.prog 3 #[.slice (some ⟨b, o, none⟩) N c] w (Ret (.bool true) w) := by
  go_enter Try.func3, Try.ntmps3
  go_wp2_with (go_at_call 7; refine (hn _ (Ext.refl _)).out.mono ?_; rintro e v1 ⟨rfl, y1⟩)
  have hB := Blk.new v1 26 #[.int .i64 s.v.by_, .int .i64 s.v.n, .int .i64 s.time]
  have y2 := y1.alloc' (.cells #[.int .i64 s.v.by_, .int .i64 s.v.n, .int .i64 s.time] 26)
  generalize v1.alloc (.cells #[.int .i64 s.v.by_, .int .i64 s.v.n, .int .i64 s.time] 26) = w1 at hB y2 ⊢
  generalize v1.heap.size = B at hB ⊢
  clear y1
  have q0 := hB.cell (i := 0) (v := .int .i64 s.v.by_) rfl
  have q1 := hB.cell (i := 1) (v := .int .i64 s.v.n) rfl
  have q2 := hB.cell (i := 2) (v := .int .i64 s.time) rfl
  have hBl := hB.lt
  have hb1 : b < w1.heap.size := Nat.lt_of_lt_of_le hbl y2.size
  clear hB
  go_loopw [5, 6] (fun f i wr => ∃ k : Nat, k ≤ 30 ∧ i = .int .i64 k ∧ f = .bool (seenK l s k) ∧ Ext w1 wr) (fun _ i _ => 30 - (intOf i).toNat)
  case atStart => exact ⟨0, by omega, rfl, rfl, Ext.refl _⟩
  case round =>
    obtain ⟨k, hk, rfl, rfl, hE⟩ := hrel
    by_cases hlt : k < 30
    · have hkl : k < l.length := by omega
      have c0 := y2.cell (hcell k hkl).1
      have c1 := y2.cell (hcell k hkl).2.1
      have c2 := y2.cell (hcell k hkl).2.2
      have hO : ∀ W, Hid (Calls Try.prog 8 #[.agg #[.int .i64 s.v.by_, .int .i64 s.v.n, .int .i64 s.time], .agg #[.int .i64 l[k].v.by_, .int .i64 l[k].v.n, .int .i64 l[k].time]] W (Ret (.bool false) W)) := fun W => by
        have := older_c s l[k] W
        rw [hmax _ (List.getElem_mem hkl)] at this
        exact hid this
      have HF := hid (seenK_succ l s k hkl)
      have HE := hid hE
      have hr := hE.rule
      have hbr : b < wr.heap.size := Nat.lt_of_lt_of_le hb1 hE.size
      have hBr : B < wr.heap.size := Nat.lt_of_lt_of_le hBl hE.size
      clear hE
      generalize seenK l s k = F0 at HF ⊢
      go_wp2_with fail
      refine wp_region_any_order (by kernel_rfl) (by kernel_rfl) (by kernel_rfl) ?_
      repeat (first
        | (refine AWq.val rfl rfl rfl rfl (fun K hK => ?_); go_big_quiet_op; refine hK _ ?_; clear hK K)
        | (refine AWq.skip rfl rfl rfl ?_; simp only [Act.put, List.setIfInBounds_toArray, List.set_cons_succ, List.set_cons_zero])
        | (refine AWq.gval rfl rfl rfl rfl rfl rfl rfl ?_; apply Exists.intro; refine And.intro (fun hg => ?_) ?_; (· (first | (go_big_quiet_op; exact rfl) | (have hg' := hg; simp only [decide_eq_true_eq, decide_eq_false_iff_not, Bool.and_eq_true, Bool.or_eq_true, Bool.not_eq_true', Bool.and_eq_false_iff, Bool.or_eq_false_iff] at hg'; go_big_quiet_op; exact rfl))); simp only [Act.put, List.setIfInBounds_toArray, List.set_cons_succ, List.set_cons_zero]))
      refine AWq.done rfl rfl rfl (fun w2 x2 => ?_)
      simp only [closeAny, Act.put, List.setIfInBounds_toArray, List.set_cons_succ, List.set_cons_zero]
      have hE2 := HE.out.trans x2
      have hr2 := hE2.rule
      have hb2 : b < w2.heap.size := Nat.lt_of_lt_of_le hb1 hE2.size
      have hB2 : B < w2.heap.size := Nat.lt_of_lt_of_le hBl hE2.size
      have HE2 := hid hE2
      clear hE2 hr hbr hBr x2
      go_wp2_with fail
      refine wp_region_any_order (by kernel_rfl) (by kernel_rfl) (by kernel_rfl) ?_
      repeat (first
        | (refine AWq.val rfl rfl rfl rfl (fun K hK => ?_); go_big_quiet_op; refine hK _ ?_; clear hK K)
        | (refine AWq.skip rfl rfl rfl ?_; simp only [Act.put, List.setIfInBounds_toArray, List.set_cons_succ, List.set_cons_zero])
        | (refine AWq.call rfl Try.func8 (by kernel_rfl) (by kernel_rfl) rfl rfl rfl ?_; apply Exists.intro; refine And.intro (fun wc hc => ?_) ?_; (· (simp only [argsOf, anyAt, ↓reduceIte, Nat.reduceEqDiff, Array.getD_eq_getD_getElem?, List.getElem?_toArray, List.getElem?_cons_succ, List.getElem?_cons_zero, Option.getD_some]; with_reducible exact (hO _).out)); simp only [Act.put, List.setIfInBounds_toArray, List.set_cons_succ, List.set_cons_zero]))
      refine AWq.done rfl rfl rfl (fun w3 x3 => ?_)
      simp only [closeAny, Act.put, List.setIfInBounds_toArray, List.set_cons_succ, List.set_cons_zero]
      have HE3 := hid (HE2.out.trans x3)
      clear hr2 hb2 hB2 x3
      go_wp2_with fail
      obtain ⟨wo, rfl⟩ : ∃ wo : World, wo = w3 := ⟨_, rfl⟩
      go_loopw [7] (fun i wi => ∃ j : Nat, j ≤ 30 ∧ i = .int .i64 j ∧ Ext w1 wi) (fun i _ => 30 - (intOf i).toNat)
      case atStart => exact ⟨0, by omega, rfl, HE3.out⟩
      case round =>
        obtain ⟨j, hj, rfl, hE⟩ := hrel
        by_cases hjlt : j < 30
        · have hjl : j < l.length := by omega
          have d0 := y2.cell (hcell j hjl).1
          have d1 := y2.cell (hcell j hjl).2.1
          have d2 := y2.cell (hcell j hjl).2.2
          have HO := fun W => hid (older_c l[k] l[j] W)
          have HC := fun W => hid (vcompare_c l[k] l[j] W)
          unfold Stamp.val at HO HC
          have hr := hE.rule
          have hbr : b < wr.heap.size := Nat.lt_of_lt_of_le hb1 hE.size
          have hBr : B < wr.heap.size := Nat.lt_of_lt_of_le hBl hE.size
          have HE := hid hE
          clear hE
          rcases cmpStamp_cases l[k] l[j] with ⟨a1, a3⟩ | ⟨a1, a2, a3⟩ | ⟨a1, a2, a3⟩
          · rw [a1] at HO
            rw [a3] at HC
            clear a1 a3
            go_wp2_with fail
            refine wp_region_any_order (by kernel_rfl) (by kernel_rfl) (by kernel_rfl) ?_
            repeat (first
              | (refine AWq.val rfl rfl rfl rfl (fun K hK => ?_); go_big_quiet_op; refine hK _ ?_; clear hK K)
              | (refine AWq.skip rfl rfl rfl ?_; simp only [Act.put, List.setIfInBounds_toArray, List.set_cons_succ, List.set_cons_zero])
              | (refine AWq.call rfl Try.func8 (by kernel_rfl) (by kernel_rfl) rfl rfl rfl ?_; apply Exists.intro; refine And.intro (fun wc hc => ?_) ?_; (· (simp only [argsOf, anyAt, ↓reduceIte, Nat.reduceEqDiff, Array.getD_eq_getD_getElem?, List.getElem?_toArray, List.getElem?_cons_succ, List.getElem?_cons_zero, Option.getD_some]; with_reducible exact (HO _).out)); simp only [Act.put, List.setIfInBounds_toArray, List.set_cons_succ, List.set_cons_zero]))
            refine AWq.done rfl rfl rfl (fun w4 x4 => ?_)
            simp only [closeAny, Act.put, List.setIfInBounds_toArray, List.set_cons_succ, List.set_cons_zero]
            have hE4 := HE.out.trans x4
            have hr4 := hE4.rule
            have hb4 : b < w4.heap.size := Nat.lt_of_lt_of_le hb1 hE4.size
            have HE4 := hid hE4
            clear hE4 hr hbr hBr x4
            go_wp2_with fail
            refine wp_region_any_order (by kernel_rfl) (by kernel_rfl) (by kernel_rfl) ?_
            repeat (first
              | (refine AWq.val rfl rfl rfl rfl (fun K hK => ?_); go_big_quiet_op; refine hK _ ?_; clear hK K)
              | (refine AWq.skip rfl rfl rfl ?_; simp only [Act.put, List.setIfInBounds_toArray, List.set_cons_succ, List.set_cons_zero])
              | (refine AWq.call rfl Try.func9 (by kernel_rfl) (by kernel_rfl) rfl rfl rfl ?_; apply Exists.intro; refine And.intro (fun wc hc => ?_) ?_; (· (simp only [argsOf, anyAt, ↓reduceIte, Nat.reduceEqDiff, Array.getD_eq_getD_getElem?, List.getElem?_toArray, List.getElem?_cons_succ, List.getElem?_cons_zero, Option.getD_some]; with_reducible exact (HC _).out)); simp only [Act.put, List.setIfInBounds_toArray, List.set_cons_succ, List.set_cons_zero]))
            refine AWq.done rfl rfl rfl (fun w6 x6 => ?_)
            simp only [closeAny, Act.put, List.setIfInBounds_toArray, List.set_cons_succ, List.set_cons_zero]
            have HE6 := hid (HE4.out.trans x6)
            clear x6
            go_wp2_with fail
            go_roundw
            case rel => exact ⟨j + 1, by omega, by go_num, HE6.out⟩
            case measure => simp [intOf]; omega
          · rw [a1] at HO
            rw [a3] at HC
            clear a1 a3
            go_wp2_with fail
            refine wp_region_any_order (by kernel_rfl) (by kernel_rfl) (by kernel_rfl) ?_
            repeat (first
              | (refine AWq.val rfl rfl rfl rfl (fun K hK => ?_); go_big_quiet_op; refine hK _ ?_; clear hK K)
              | (refine AWq.skip rfl rfl rfl ?_; simp only [Act.put, List.setIfInBounds_toArray, List.set_cons_succ, List.set_cons_zero])
              | (refine AWq.call rfl Try.func8 (by kernel_rfl) (by kernel_rfl) rfl rfl rfl ?_; apply Exists.intro; refine And.intro (fun wc hc => ?_) ?_; (· (simp only [argsOf, anyAt, ↓reduceIte, Nat.reduceEqDiff, Array.getD_eq_getD_getElem?, List.getElem?_toArray, List.getElem?_cons_succ, List.getElem?_cons_zero, Option.getD_some]; with_reducible exact (HO _).out)); simp only [Act.put, List.setIfInBounds_toArray, List.set_cons_succ, List.set_cons_zero]))
            refine AWq.done rfl rfl rfl (fun w4 x4 => ?_)
            simp only [closeAny, Act.put, List.setIfInBounds_toArray, List.set_cons_succ, List.set_cons_zero]
            have hE4 := HE.out.trans x4
            have hr4 := hE4.rule
            have hb4 : b < w4.heap.size := Nat.lt_of_lt_of_le hb1 hE4.size
            have HE4 := hid hE4
            clear hE4 hr hbr hBr x4
            go_wp2_with fail
            refine wp_region_any_order (by kernel_rfl) (by kernel_rfl) (by kernel_rfl) ?_
            repeat (first
              | (refine AWq.val rfl rfl rfl rfl (fun K hK => ?_); go_big_quiet_op; refine hK _ ?_; clear hK K)
              | (refine AWq.skip rfl rfl rfl ?_; simp only [Act.put, List.setIfInBounds_toArray, List.set_cons_succ, List.set_cons_zero]))
            refine AWq.done rfl rfl rfl (fun w5 x5 => ?_)
            simp only [closeAny, Act.put, List.setIfInBounds_toArray, List.set_cons_succ, List.set_cons_zero]
            have hE5 := HE4.out.trans x5
            have hr5 := hE5.rule
            have hb5 : b < w5.heap.size := Nat.lt_of_lt_of_le hb1 hE5.size
            have HE4 := hid hE5
            clear hE5 x5 hr4 hb4
            go_wp2_with fail
            refine wp_region_any_order (by kernel_rfl) (by kernel_rfl) (by kernel_rfl) ?_
            repeat (first
              | (refine AWq.val rfl rfl rfl rfl (fun K hK => ?_); go_big_quiet_op; refine hK _ ?_; clear hK K)
              | (refine AWq.skip rfl rfl rfl ?_; simp only [Act.put, List.setIfInBounds_toArray, List.set_cons_succ, List.set_cons_zero])
              | (refine AWq.call rfl Try.func9 (by kernel_rfl) (by kernel_rfl) rfl rfl rfl ?_; apply Exists.intro; refine And.intro (fun wc hc => ?_) ?_; (· (simp only [argsOf, anyAt, ↓reduceIte, Nat.reduceEqDiff, Array.getD_eq_getD_getElem?, List.getElem?_toArray, List.getElem?_cons_succ, List.getElem?_cons_zero, Option.getD_some]; with_reducible exact (HC _).out)); simp only [Act.put, List.setIfInBounds_toArray, List.set_cons_succ, List.set_cons_zero]))
            refine AWq.done rfl rfl rfl (fun w6 x6 => ?_)
            simp only [closeAny, Act.put, List.setIfInBounds_toArray, List.set_cons_succ, List.set_cons_zero]
            have HE6 := hid (HE4.out.trans x6)
            clear x6
            go_wp2_with fail
            go_roundw
            case rel => exact ⟨j + 1, by omega, by go_num, HE6.out⟩
            case measure => simp [intOf]; omega
          · rw [a1] at HO
            rw [a3] at HC
            clear a1 a3
            go_wp2_with fail
            refine wp_region_any_order (by kernel_rfl) (by kernel_rfl) (by kernel_rfl) ?_
            repeat (first
              | (refine AWq.val rfl rfl rfl rfl (fun K hK => ?_); go_big_quiet_op; refine hK _ ?_; clear hK K)
              | (refine AWq.skip rfl rfl rfl ?_; simp only [Act.put, List.setIfInBounds_toArray, List.set_cons_succ, List.set_cons_zero])
              | (refine AWq.call rfl Try.func8 (by kernel_rfl) (by kernel_rfl) rfl rfl rfl ?_; apply Exists.intro; refine And.intro (fun wc hc => ?_) ?_; (· (simp only [argsOf, anyAt, ↓reduceIte, Nat.reduceEqDiff, Array.getD_eq_getD_getElem?, List.getElem?_toArray, List.getElem?_cons_succ, List.getElem?_cons_zero, Option.getD_some]; with_reducible exact (HO _).out)); simp only [Act.put, List.setIfInBounds_toArray, List.set_cons_succ, List.set_cons_zero]))
            refine AWq.done rfl rfl rfl (fun w4 x4 => ?_)
            simp only [closeAny, Act.put, List.setIfInBounds_toArray, List.set_cons_succ, List.set_cons_zero]
            have hE4 := HE.out.trans x4
            have hr4 := hE4.rule
            have hb4 : b < w4.heap.size := Nat.lt_of_lt_of_le hb1 hE4.size
            have HE4 := hid hE4
            clear hE4 hr hbr hBr x4
            go_wp2_with fail
            refine wp_region_any_order (by kernel_rfl) (by kernel_rfl) (by kernel_rfl) ?_
            repeat (first
              | (refine AWq.val rfl rfl rfl rfl (fun K hK => ?_); go_big_quiet_op; refine hK _ ?_; clear hK K)
              | (refine AWq.skip rfl rfl rfl ?_; simp only [Act.put, List.setIfInBounds_toArray, List.set_cons_succ, List.set_cons_zero]))
            refine AWq.done rfl rfl rfl (fun w5 x5 => ?_)
            simp only [closeAny, Act.put, List.setIfInBounds_toArray, List.set_cons_succ, List.set_cons_zero]
            have hE5 := HE4.out.trans x5
            have hr5 := hE5.rule
            have hb5 : b < w5.heap.size := Nat.lt_of_lt_of_le hb1 hE5.size
            have HE4 := hid hE5
            clear hE5 x5 hr4 hb4
            go_wp2_with fail
            refine wp_region_any_order (by kernel_rfl) (by kernel_rfl) (by kernel_rfl) ?_
            repeat (first
              | (refine AWq.val rfl rfl rfl rfl (fun K hK => ?_); go_big_quiet_op; refine hK _ ?_; clear hK K)
              | (refine AWq.skip rfl rfl rfl ?_; simp only [Act.put, List.setIfInBounds_toArray, List.set_cons_succ, List.set_cons_zero])
              | (refine AWq.call rfl Try.func9 (by kernel_rfl) (by kernel_rfl) rfl rfl rfl ?_; apply Exists.intro; refine And.intro (fun wc hc => ?_) ?_; (· (simp only [argsOf, anyAt, ↓reduceIte, Nat.reduceEqDiff, Array.getD_eq_getD_getElem?, List.getElem?_toArray, List.getElem?_cons_succ, List.getElem?_cons_zero, Option.getD_some]; with_reducible exact (HC _).out)); simp only [Act.put, List.setIfInBounds_toArray, List.set_cons_succ, List.set_cons_zero]))
            refine AWq.done rfl rfl rfl (fun w6 x6 => ?_)
            simp only [closeAny, Act.put, List.setIfInBounds_toArray, List.set_cons_succ, List.set_cons_zero]
            have HE6 := hid (HE4.out.trans x6)
            clear x6
            go_wp2_with fail
            go_roundw
            case rel => exact ⟨j + 1, by omega, by go_num, HE6.out⟩
            case measure => simp [intOf]; omega
        · obtain rfl : j = 30 := by omega
          have HE := hid hE
          clear hE
          go_wp2_with fail
          go_roundw
          case rel => exact ⟨k + 1, by omega, by go_num, by rw [HF.out], HE.out⟩
          case measure => simp [intOf]; omega
    · obtain rfl : k = 30 := by omega
      have HE := hid hE
      clear hE
      have hsa := seenK_all l s hsl
      rw [hL] at hsa
      rw [hsa]
      clear hsa
      go_wp2_with (go_at_call 10; refine (awake_c _).mono ?_; rintro e v2 ⟨rfl, z2⟩)
      go_ret
      exact ⟨rfl, (y2.trans HE.out).trans z2⟩

set_option maxRecDepth 100000 in
set_option maxHeartbeats 4000000 in
theorem order_walk_none (A : Option Addr) (c : Nat) (w : World) (hn : ∀ W, Ext w W → Hid (Calls Try.prog 7 #[.slice A 0 c] W (Ret (.tuple #[.agg #[.int .i64 0, .int .i64 0, .int .i64 0], .bool false]) W))) :
    Calls Try.prog 3 #[.slice A 0 c] w (Ret (.bool true) w) := by
  have he : eq3 0 0 0 0 0 0 = true := by decide
  go_enter Try.func3, Try.ntmps3
  go_wp2_with (go_at_call 7; refine (hn _ (Ext.refl _)).out.mono ?_; rintro e v1 ⟨rfl, y1⟩)
  go_loopw [5, 6] (fun f i wr => f = .bool true ∧ i = .int .i64 0 ∧ Ext w wr) (fun _ _ _ => 0)
  case atStart => exact ⟨rfl, rfl, y1.alloc' _⟩
  case round =>
    obtain ⟨rfl, rfl, hE⟩ := hrel
    have HE := hid hE
    clear hE
    go_wp2_with (go_at_call 10; refine (awake_c _).mono ?_; rintro e v2 ⟨rfl, z2⟩)
    go_ret
    exact ⟨rfl, HE.out.trans z2⟩

theorem order_law (l : List Stamp) (v : Value) (w : World) (hs : Sl w 3 v (Stamps l)) : Calls Try.prog 3 #[v] w (Ret (.bool true) w) := by
  by_cases h0 : l.length = 0
  · have hl : l = [] := List.eq_nil_of_length_eq_zero h0
    subst hl
    have hn := fun W (he : Ext w W) => newest_c [] v W (hs.ext he)
    obtain ⟨A, c, rfl, _⟩ := sl_stamp hs
    exact order_walk_none A c w fun W he => hid (hn W he)
  · by_cases hgt : 30 < l.length
    · obtain ⟨A, c, hv, hlc, hm, hc⟩ := sl_stamp hs
      obtain ⟨b, o, rfl, hbl, hcell⟩ := hc (by omega)
      subst hv
      have hs1 := sl_take (m := 30) hs (by omega)
      have hL : (l.take 30).length = 30 := by simp; omega
      have hs2 : Sl w 3 (.slice (some ⟨b, o, none⟩) 30 c) (Stamps (l.take 30)) := by simpa [Stamps, List.map_take] using hs1
      obtain ⟨n1, n2⟩ := newest_spec (l.take 30) (by omega)
      have hn := fun W (he : Ext w W) => newest_c (l.take 30) _ W (hs2.ext he)
      rw [show decide (0 < (l.take 30).length) = true by simp; omega] at hn
      exact order_walk_long l.length b o c (l.take 30) w hgt (by unfold maxLen at hm; omega) hlc hL hbl (fun k h => by rw [List.getElem_take]; exact hcell k (by omega)) _ n1 n2 fun W he => hid (hn W he)
    · obtain ⟨n1, n2⟩ := newest_spec l (by omega)
      have hn := fun W (he : Ext w W) => newest_c l v W (hs.ext he)
      rw [show decide (0 < l.length) = true by simp; omega] at hn
      exact order_walk l v w hs (by omega) (by omega) _ n1 n2 fun W he => hid (hn W he)
end Go.Proofs.Ytelgkfempikenaa
