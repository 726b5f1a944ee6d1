/-
  sizes.Same; lighteragelaw08.few, awake.
-/
import Derived.Test.YtefgjkaoidifbaaSzG
namespace Go.Proofs.Ytefgjkaoidifbaa
set_option linter.unusedSimpArgs false
set_option linter.unusedVariables false
open Go.RowKit

instance : DecidableEq Rng := fun a b => if h : a.lo = b.lo ∧ a.hi = b.hi then isTrue (Rng.ext_ h.1 h.2) else isFalse (by rintro rfl; exact h ⟨rfl, rfl⟩)
theorem eq2_rng {a b : Rng} (h : a ≠ b) : eq2 a.lo a.hi b.lo b.hi = false := by
  rw [Bool.eq_false_iff]
  intro e
  have := of_decide_eq_true e
  exact h (Rng.ext_ this.1 this.2)

set_option maxRecDepth 100000 in
set_option maxHeartbeats 2000000 in
theorem same8_c (w : World) (v u : Value) (a b : List Rng) (h : Sl w 2 v (a.map Rng.cells)) (hb : Sl w 2 u (b.map Rng.cells)) (hl : a.length ≤ 300) (hl2 : b.length ≤ 300) : Calls Try.prog 55 #[v, u] w (Ret (.bool (decide (nf (sizes a) = nf (sizes b)))) w) := by
  have HNa := hid (norm_c w v a h (by omega))
  have HNb := fun W (hW : Ext w W) => hid (norm_c W u b (hb.ext hW) (by omega))
  obtain ⟨_, _, fa3⟩ := nf_form a
  obtain ⟨_, _, fb3⟩ := nf_form b
  obtain ⟨A0, c0, rfl, _⟩ := sl_get h
  obtain ⟨B0, d0, rfl, _⟩ := sl_get hb
  clear h hb
  generalize nf (sizes a) = A at *
  generalize nf (sizes b) = B at *
  obtain ⟨m, hm1, hm2, hm3, hm⟩ : ∃ m : Nat, m ≤ A.length ∧ m ≤ B.length ∧ (m = A.length ∨ m = B.length) ∧ min (A.length : Int) (B.length : Int) = (m : Int) := ⟨min A.length B.length, by omega, by omega, by omega, by omega⟩
  have R1 : Hid (∀ k (h1 : k < A.length) (h2 : k < B.length), A[k] ≠ B[k] → decide (A = B) = false) := fun k h1 h2 hne => decide_eq_false fun e => hne (by subst e; rfl)
  have R2 : Hid ((∀ j, j < m → A[j]? = B[j]?) → ((A.length : Int) == (B.length : Int)) = decide (A = B)) := fun hall => by
    by_cases e : A.length = B.length
    · have : A = B := List.ext_getElem? fun j => by
        by_cases hj : j < m
        · exact hall j hj
        · rw [List.getElem?_eq_none (by omega), List.getElem?_eq_none (by omega)]
      subst this
      simp
    · have : A ≠ B := fun h => e (by rw [h])
      rw [decide_eq_false this]
      simp
      omega
  generalize decide (A = B) = r at R1 R2 ⊢
  go_enter Try.func55, Try.ntmps55
  go_wp2_with (first
    | (go_at_call 13; have tok := HX1; clear tok; refine (HNb _ HX1.out).out.mono ?_; rintro e w2 ⟨x, rfl, hy, hx2⟩; obtain ⟨Ab, cb, hxb, q1, q2, q3⟩ := sl_get hy.1; obtain ⟨Aa, ca, hxa, p1, p2, p3⟩ := sl_get (HY.out.1.ext hx2); subst hxa hxb; have HX2 := hid (HX1.out.trans hx2); clear hy hx2)
    | (go_at_call 13; refine (HNa.out).mono ?_; rintro e w1 ⟨y, rfl, hy, hx1⟩; have HX1 := hid hx1; have HY := hid hy; clear hy hx1))
  unfold maxLen at p2 q2
  clear HY hm
  go_loopw [15] (fun i wr => ∃ k : Nat, k ≤ m ∧ i = .int .i64 k ∧ Ext w2 wr ∧ Hid (∀ j, j < k → A[j]? = B[j]?)) (fun i _ => m - (intOf i).toNat)
  case atStart => exact ⟨0, by omega, rfl, Ext.refl _, fun j hj => by omega⟩
  case round =>
    obtain ⟨k, hk, rfl, hE, hall⟩ := hrel
    have HE := hid hE
    by_cases hlt : k < m
    · obtain ⟨b1, o1, rfl, lb1, hc1⟩ := p3 (by omega)
      obtain ⟨b2, o2, rfl, lb2, hc2⟩ := q3 (by omega)
      have x0 := hE.cell (hc1 k (by omega) 0 _ rfl)
      have x1 := hE.cell (hc1 k (by omega) 1 _ rfl)
      have y0 := hE.cell (hc2 k (by omega) 0 _ rfl)
      have y1 := hE.cell (hc2 k (by omega) 1 _ rfl)
      rw [Nat.add_zero] at x0 y0
      have R3 := hid (R1.out k (by omega) (by omega))
      have hA : A[k]? = some (A[k]'(by omega)) := List.getElem?_eq_getElem (by omega)
      have hB : B[k]? = some (B[k]'(by omega)) := List.getElem?_eq_getElem (by omega)
      have HA := hid hA
      have HB := hid hB
      have hkA : k < A.length := by omega
      have hkB : k < B.length := by omega
      clear hE hc1 hc2 p3 q3 hA hB
      generalize A[k] = x at x0 x1 R3 HA
      generalize B[k] = y at y0 y1 R3 HB
      by_cases he : x = y
      · subst he
        have hs := eq2_self x.lo x.hi
        go_wp2_with fail
        go_quiet (fail)
        go_wp2_with fail
        exact ⟨⟨k + 1, by omega, by go_num, HE.out.drewN' _, fun j hj => by
          by_cases e : j = k
          · subst e; rw [HA.out, HB.out]
          · exact hall.out j (by omega)⟩, by simp [intOf]; omega⟩
      · have hs := eq2_rng he
        have hr := hid (R3.out he)
        clear he R3 R1 R2
        go_wp2_with fail
        go_quiet (fail)
        go_wp2_with fail
        go_ret
        exact ⟨by rw [hr.out]; rfl, HX2.out.trans (HE.out.drewN' _)⟩
    · obtain rfl : k = m := by omega
      have hr := hid (R2.out hall.out)
      clear hE p3 q3 R1 R2 hall
      go_wp2_with fail
      go_ret
      exact ⟨by rw [← hr.out]; rfl, HX2.out.trans HE.out⟩

theorem few8_x (w : World) (v : Value) (l : List Rng) (h : Sl w 2 v (l.map Rng.cells)) : ∃ v1, Calls Try.prog 12 #[v] w (fun e w' => e = .returned v1 ∧ w = w') ∧ Sl w 2 v1 ((l.take 30).map Rng.cells) := by
  have h0 := h
  obtain ⟨A, c, rfl, h1, h2, h3⟩ := sl_get h
  unfold maxLen at h2
  clear h
  by_cases hgt : 30 < l.length
  · have d0 : decide ((30 : Int) < (l.length : Int)) = true := by simp; omega
    obtain ⟨b, o, rfl, lb, _⟩ := h3 (by omega)
    have hs := sl_take (m := 30) h0 (by omega)
    rw [← List.map_take] at hs
    refine ⟨_, ?_, hs⟩
    clear hs h0 h3
    go_enter Try.func12, Try.ntmps12
    go_wp2_with fail
    go_ret
    exact ⟨rfl, rfl⟩
  · have d0 : decide ((30 : Int) < (l.length : Int)) = false := by simp; omega
    refine ⟨_, ?_, by rw [List.take_of_length_le (by omega)]; exact h0⟩
    clear h0 h3
    go_enter Try.func12, Try.ntmps12
    go_wp2_with fail
    go_ret
    exact ⟨rfl, rfl⟩

theorem awake_nf : nf (sizes [⟨5, 9⟩, ⟨0, 3⟩, ⟨4, 4⟩]) = [⟨0, 9⟩] := by
  refine (nf_is ⟨fun r hr => ?_, List.pairwise_singleton _ _⟩ fun n => ?_).symm
  · rw [List.mem_singleton.1 hr]
    unfold Ok1
    simp
  · unfold sizes
    simp only [memS_cons, memS_nil, or_false]
    unfold inR
    simp only
    omega
theorem litR_sl {w : World} {n : Nat} (l : List Rng) (cs : Array Value) (hcs : cs = ((l.map Rng.cells).flatten).toArray) (hn : l.length = n) (hm : n ≤ maxLen) : Sl (w.alloc (.cells cs 29)) 2 (.slice (some ⟨w.heap.size, 0, none⟩) n n) (l.map Rng.cells) :=
  Sl.of_flat (Blk.new w 29 cs) ⟨[], by rw [hcs]; simp⟩ (rng_coded.sizes l) (by simpa using hn) (Nat.le_refl _) hm
set_option maxRecDepth 100000 in
set_option maxHeartbeats 2000000 in
theorem awake8_c (w : World) : Calls Try.prog 16 #[] w (Ret (.bool true) w) := by
  have HN := hid (norm_c (w.alloc (.cells #[.int .i64 5, .int .i64 9, .int .i64 0, .int .i64 3, .int .i64 4, .int .i64 4] 29)) _ [⟨5, 9⟩, ⟨0, 3⟩, ⟨4, 4⟩] (litR_sl _ _ rfl rfl (by unfold maxLen; simp)) (by simp))
  rw [awake_nf] at HN
  have HH := fun W (v : Value) (h : Sl W 2 v (List.map Rng.cells [⟨0, 9⟩])) => hid (holds_c W v [⟨0, 9⟩] 9 h)
  have HH2 := fun W (v : Value) (h : Sl W 2 v (List.map Rng.cells [⟨0, 9⟩])) => hid (holds_c W v [⟨0, 9⟩] 10 h)
  have HM := fun W (v : Value) (h : Sl W 2 v (List.map Rng.cells [⟨0, 9⟩])) => hid (many_c W v [⟨0, 9⟩] h (by simp))
  rw [show holdsB [⟨0, 9⟩] 9 = true from by decide] at HH
  rw [show holdsB [⟨0, 9⟩] 10 = false from by decide] at HH2
  have e : nf (sizes [⟨0, 9⟩]) = [⟨0, 9⟩] := by
    have := nf_again [⟨5, 9⟩, ⟨0, 3⟩, ⟨4, 4⟩]
    rwa [awake_nf] at this
  rw [e, show manyK [⟨0, 9⟩] = 10 from by decide] at HM
  clear e
  go_enter Try.func16, Try.ntmps16
  go_wp2_with (first
    | (go_at_call 13; refine (HN.out).mono ?_; rintro e w1 ⟨v1, rfl, hv1, hx1⟩; obtain ⟨A1, c1, hu, q1, q2, q3⟩ := sl_get hv1.1; subst hu; obtain ⟨b, o, rfl, lb, hc⟩ := q3 (by simp); have d0 : w1.cell? ⟨b, o, none⟩ = some (.int .i64 0) := (by have := hc 0 (by simp) 0 _ rfl; simpa using this); have d1 : w1.cell? ⟨b, o + 1, none⟩ = some (.int .i64 9) := (by have := hc 0 (by simp) 1 _ rfl; simpa using this); have HV : Hid (Sl w1 2 (.slice (some ⟨b, o, none⟩) 1 c1) (List.map Rng.cells [⟨0, 9⟩])) := hv1.1; have HX1 := hid hx1; clear hv1 hx1 hc q3; unfold maxLen at q2; simp only [List.length_singleton] at q1)
    | (go_at_call 18; (with_reducible refine (HH _ _ HV.out).out.mono ?_); rintro e w2 ⟨rfl, hx2⟩; have HX2 := hid hx2; have HV2 := hid (HV.out.ext hx2); clear hx2)
    | (go_at_call 18; (with_reducible refine (HH2 _ _ HV2.out).out.mono ?_); rintro e w3 ⟨rfl, hx3⟩; have HX3 := hid hx3; have HV3 := hid (HV2.out.ext hx3); clear hx3)
    | (go_at_call 20; (with_reducible refine (HM _ _ HV3.out).out.mono ?_); rintro e w4 ⟨rfl, hx4⟩; have HX4 := hid hx4; clear hx4))
  go_ret
  exact ⟨rfl, (Ext.alloc _ _).trans (HX1.out.trans (HX2.out.trans (HX3.out.trans HX4.out)))⟩
end Go.Proofs.Ytefgjkaoidifbaa
