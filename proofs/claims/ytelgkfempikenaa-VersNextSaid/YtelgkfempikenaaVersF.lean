/-
  The walks of the laws VersChecks, VersNext.
-/
import Derived.Test.YtelgkfempikenaaVersE
namespace Go.Proofs.Ytelgkfempikenaa
open Go.RowKit

set_option maxHeartbeats 2000000 in
theorem checks_walk (a b t cv cs : Int) (rt : Bool) (w : World)
    (h1 : ∀ W, Hid (Calls Try.prog 11 #[.agg #[.int .i64 a, .int .i64 b]] W (Ret (.int .i64 cv) W)))
    (h2 : ∀ W, Hid (Calls Try.prog 12 #[.agg #[.int .i64 a, .int .i64 b, .int .i64 t]] W (Ret (.int .i64 cs) W)))
    (h3 : ∀ W, Hid (Calls Try.prog 13 #[.agg #[.int .i64 a, .int .i64 b]] W (Ret (.bool rt) W)))
    (hcase : (cv = 0 ∧ rt = true ∧ cs = 0 ∧ 1 ≤ t) ∨ (cv = 0 ∧ rt = true ∧ cs = 2 ∧ t < 1) ∨ (cv = 2 ∧ rt = false ∧ cs = 2)) :
    Calls Try.prog 4 #[.agg #[.int .i64 a, .int .i64 b, .int .i64 t]] w (Ret (.bool true) w) := by
  rcases hcase with ⟨rfl, rfl, rfl, ht⟩ | ⟨rfl, rfl, rfl, ht⟩ | ⟨rfl, rfl, rfl⟩
  all_goals
    go_enter Try.func4, Try.ntmps4
    go_wp2_with fail
    refine wp_region_any_order (by kernel_rfl) (by kernel_rfl) (by kernel_rfl) ?_
    repeat (first
      | (refine AWq.val rfl rfl rfl rfl (fun K hK => ?_); go_big_quiet_op; refine hK _ ?_; clear hK K)
      | (refine AWq.skip rfl rfl rfl ?_; simp only [Act.put, List.setIfInBounds_toArray, List.set_cons_succ, List.set_cons_zero])
      | (refine AWq.call rfl Try.func11 (by kernel_rfl) (by kernel_rfl) rfl rfl rfl ?_; apply Exists.intro; refine And.intro (fun wc hc => ?_) ?_; (· (simp only [argsOf, anyAt, ↓reduceIte, Nat.reduceEqDiff, Array.getD_eq_getD_getElem?, List.getElem?_toArray, List.getElem?_cons_succ, List.getElem?_cons_zero, Option.getD_some]; with_reducible exact (h1 _).out)); simp only [Act.put, List.setIfInBounds_toArray, List.set_cons_succ, List.set_cons_zero])
      | (refine AWq.call rfl Try.func12 (by kernel_rfl) (by kernel_rfl) rfl rfl rfl ?_; apply Exists.intro; refine And.intro (fun wc hc => ?_) ?_; (· (simp only [argsOf, anyAt, ↓reduceIte, Nat.reduceEqDiff, Array.getD_eq_getD_getElem?, List.getElem?_toArray, List.getElem?_cons_succ, List.getElem?_cons_zero, Option.getD_some]; with_reducible exact (h2 _).out)); simp only [Act.put, List.setIfInBounds_toArray, List.set_cons_succ, List.set_cons_zero]))
    refine AWq.done rfl rfl rfl (fun w1 x1 => ?_)
    simp only [closeAny, Act.put, List.setIfInBounds_toArray, List.set_cons_succ, List.set_cons_zero]
    have hr := x1.rule
    go_wp2_with (first
      | (go_at_call 13; (with_reducible refine (h3 _).out.mono ?_); rintro e v1 ⟨rfl, y1⟩)
      | (go_at_call 10; refine (awake_c _).mono ?_; rintro e v2 ⟨rfl, y2⟩; have hr2 := ((x1.trans y1).trans y2).rule))
    go_ret
    exact ⟨by first | rfl | (simp; omega), (Ext.alloc _ _).trans ((x1.trans y1).trans y2)⟩

set_option maxHeartbeats 400000 in
theorem high_s (a b : Int) (w : World) : Calls Try.prog 14 #[.int .i64 a, .int .i64 b] w fun e w' => e = .returned (.int .i64 (max a b)) ∧ w = w' := by
  go_enter Try.func14, Try.ntmps14
  go_wp2
  all_goals go_ret
  all_goals refine ⟨?_, rfl⟩
  all_goals simp
  all_goals omega

theorem sl_take {w : World} {sz b o n c m : Nat} {xs : List (List Value)} (h : Sl w sz (.slice (some ⟨b, o, none⟩) n c) xs) (hm : m ≤ n) : Sl w sz (.slice (some ⟨b, o, none⟩) m c) (xs.take m) := by
  obtain ⟨A, c', h1, h2, h3, h4⟩ := h
  injection h1 with hA hn hc
  subst hA; subst hc
  have hlen : (xs.take m).length = m := by simp; omega
  refine ⟨_, c, by rw [hlen], by rw [hlen]; omega, h3, fun hp => ?_⟩
  obtain ⟨b', o', h5, h6, h7⟩ := h4 (by omega)
  exact ⟨b', o', h5, h6, fun k x j u hk hj => h7 k x j u (by rw [List.getElem?_take] at hk; split at hk; exact hk; cases hk) hj⟩

set_option maxHeartbeats 2000000 in
theorem next_walk (t : Int) (l : List Int) (v : Value) (w : World) (ht : t ≤ 9223372036854775807) (hl : ∀ z ∈ l, z ≤ 9223372036854775807) (hs : Sl w 1 v (Ints l)) :
    Calls Try.prog 5 #[.int .i64 t, v] w (Ret (.bool true) w) := by
  have hs0 := hs
  obtain ⟨A, c, rfl, hn, hm, hc⟩ := sl_int hs
  clear hs
  unfold maxLen at hm
  by_cases hgt : 100 < l.length
  · obtain ⟨b, o, rfl, hbl, hcell⟩ := hc (by omega)
    have hs1 := sl_take (m := 100) hs0 (by omega)
    have hL : (l.take 100).length = 100 := by simp; omega
    have hs2 : Sl w 1 (.slice (some ⟨b, o, none⟩) 100 c) (Ints (l.take 100)) := by simpa [Ints, List.map_take] using hs1
    clear hs0 hs1 hc
    go_enter Try.func5, Try.ntmps5
    go_wp2_with (go_at_call 14; refine (high_s _ _ _).mono ?_; rintro e w' ⟨rfl, rfl⟩)
    have hl : ∀ z ∈ l.take 100, z ≤ 9223372036854775807 := fun z hz => hl z (List.mem_of_mem_take hz)
    have hcell' : ∀ k (h : k < (l.take 100).length), w.cell? ⟨b, o + k, none⟩ = some (.int .i64 (l.take 100)[k]) := fun k h => by
      rw [List.getElem_take]; exact hcell k (by omega)
    clear hcell
    have hc := hcell'
    clear hcell'
    generalize l.take 100 = L at hs2 hl hc hL ⊢
    go_loop [5, 6] (fun m i => ∃ k : Nat, k ≤ 100 ∧ i = .int .i64 k ∧ m = .int .i64 (highK t (List.take k L))) (fun _ i => 100 - (intOf i).toNat)
    case atStart => exact ⟨0, by omega, rfl, by simp [highK]⟩
    case round =>
      obtain ⟨k, hk, rfl, rfl⟩ := hrel
      by_cases hlt : k < 100
      · have c0 := hc k (by omega)
        have Ht : Hid (highK t (List.take (k + 1) L) = max (highK t (List.take k L)) (L)[k]) := highK_take t L k (by omega)
        clear hc
        go_wp2_with (go_at_call 14; refine (high_s _ _ _).mono ?_; rintro e w' ⟨rfl, rfl⟩)
        go_round
        case rel => exact ⟨k + 1, by omega, by go_num, by rw [Ht.out]⟩
        case measure => simp [intOf]; omega
      · obtain rfl : k = 100 := by omega
        clear hc hk hlt
        have hrt := highK_le t L ht hl
        have hN := fun W (he : Ext w W) => next_c t L _ W ht hl (hs2.ext he)
        rw [List.take_of_length_le (by omega)]
        clear hl ht
        generalize highK t L = q at hrt hN ⊢
        by_cases hq : q = 9223372036854775807
        · subst hq
          have HN : ∀ W, Ext w W → Hid (Calls Try.prog 15 #[.int .i64 t, .slice (some ⟨b, o, none⟩) 100 c] W (Ret (.tuple #[.int .i64 0, .int .i64 15]) W)) := fun W he => hid (hN W he)
          clear hN
          go_wp2_with (first
            | (go_at_call 15; refine (HN _ (Ext.refl _)).out.mono ?_; rintro e v1 ⟨rfl, y1⟩)
            | (go_at_call 10; refine (awake_c _).mono ?_; rintro e v2 ⟨rfl, y2⟩))
          go_ret
          exact ⟨rfl, y1.trans y2⟩
        · have HN : ∀ W, Ext w W → Hid (Calls Try.prog 15 #[.int .i64 t, .slice (some ⟨b, o, none⟩) 100 c] W (Ret (.tuple #[.int .i64 (q + 1), .int .i64 0]) W)) := fun W he => hid (by have := hN W he; rw [nextK, if_neg hq] at this; exact this)
          clear hN
          have hqb : (q == 9223372036854775807) = false := by simpa using hq
          have hq1 : q ≤ 9223372036854775806 := by omega
          clear hq
          go_wp2_with (first
            | (go_at_call 15; refine (HN _ (Ext.refl _)).out.mono ?_; rintro e v1 ⟨rfl, y1⟩)
            | (go_at_call 10; refine (awake_c _).mono ?_; rintro e v2 ⟨rfl, y2⟩))
          go_ret
          exact ⟨by simp, y1.trans y2⟩
  · have hs2 := hs0
    clear hs0
    go_enter Try.func5, Try.ntmps5
    go_wp2_with (go_at_call 14; refine (high_s _ _ _).mono ?_; rintro e w' ⟨rfl, rfl⟩)
    go_loop [5, 6] (fun m i => ∃ k : Nat, k ≤ l.length ∧ i = .int .i64 k ∧ m = .int .i64 (highK t (List.take k l))) (fun _ i => l.length - (intOf i).toNat)
    case atStart => exact ⟨0, by omega, rfl, by simp [highK]⟩
    case round =>
      obtain ⟨k, hk, rfl, rfl⟩ := hrel
      by_cases hlt : k < l.length
      · (obtain ⟨b, o, rfl, hbl, hcell⟩ := hc (by omega)); have c0 := hcell k hlt
        have Ht : Hid (highK t (List.take (k + 1) l) = max (highK t (List.take k l)) (l)[k]) := highK_take t l k (by omega)
        clear hc
        go_wp2_with (go_at_call 14; refine (high_s _ _ _).mono ?_; rintro e w' ⟨rfl, rfl⟩)
        go_round
        case rel => exact ⟨k + 1, by omega, by go_num, by rw [Ht.out]⟩
        case measure => simp [intOf]; omega
      · obtain rfl : k = l.length := by omega
        clear hc hk hlt
        have hrt := highK_le t l ht hl
        have hN := fun W (he : Ext w W) => next_c t l _ W ht hl (hs2.ext he)
        rw [List.take_length]
        clear hl ht
        generalize highK t l = q at hrt hN ⊢
        by_cases hq : q = 9223372036854775807
        · subst hq
          have HN : ∀ W, Ext w W → Hid (Calls Try.prog 15 #[.int .i64 t, .slice A l.length c] W (Ret (.tuple #[.int .i64 0, .int .i64 15]) W)) := fun W he => hid (hN W he)
          clear hN
          go_wp2_with (first
            | (go_at_call 15; refine (HN _ (Ext.refl _)).out.mono ?_; rintro e v1 ⟨rfl, y1⟩)
            | (go_at_call 10; refine (awake_c _).mono ?_; rintro e v2 ⟨rfl, y2⟩))
          go_ret
          exact ⟨rfl, y1.trans y2⟩
        · have HN : ∀ W, Ext w W → Hid (Calls Try.prog 15 #[.int .i64 t, .slice A l.length c] W (Ret (.tuple #[.int .i64 (q + 1), .int .i64 0]) W)) := fun W he => hid (by have := hN W he; rw [nextK, if_neg hq] at this; exact this)
          clear hN
          have hqb : (q == 9223372036854775807) = false := by simpa using hq
          have hq1 : q ≤ 9223372036854775806 := by omega
          clear hq
          go_wp2_with (first
            | (go_at_call 15; refine (HN _ (Ext.refl _)).out.mono ?_; rintro e v1 ⟨rfl, y1⟩)
            | (go_at_call 10; refine (awake_c _).mono ?_; rintro e v2 ⟨rfl, y2⟩))
          go_ret
          exact ⟨by simp, y1.trans y2⟩
end Go.Proofs.Ytelgkfempikenaa
