/-
  The walks of the laws SizesTwo, SizesCovers.
-/
import Derived.Test.YtefgjkaoidifbaaSzI
namespace Go.Proofs.Ytefgjkaoidifbaa
set_option linter.unusedSimpArgs false
set_option linter.unusedVariables false
open Go.RowKit

set_option maxRecDepth 100000 in
set_option maxHeartbeats 4000000 in
theorem two8_walk (a0 b0 : List Rng) (v u : Value) (w : World) (h : Sl w 2 v (a0.map Rng.cells)) (hb : Sl w 2 u (b0.map Rng.cells)) : Calls Try.prog 10 #[v, u] w (Ret (.bool true) w) := by
  obtain ⟨v1, hF1, hA⟩ := few8_x w v a0 h
  obtain ⟨u1, hF2, hB⟩ := few8_x w u b0 hb
  have HF1 := hid hF1
  have HF2 := hid hF2
  clear hF1 hF2
  have hla : (a0.take 30).length ≤ 30 := by rw [List.length_take]; omega
  have hlb : (b0.take 30).length ≤ 30 := by rw [List.length_take]; omega
  obtain ⟨A, c, rfl, _⟩ := sl_get h
  obtain ⟨A', c', rfl, _⟩ := sl_get hb
  clear h hb
  generalize a0.take 30 = a at hA hla
  generalize b0.take 30 = b at hB hlb
  have A_0 := hid hA
  have B_0 := hid hB
  have HX_0 := hid (Ext.refl w)
  clear hA hB
  have HJ := fun W (h : Sl W 2 v1 (a.map Rng.cells)) (h' : Sl W 2 u1 (b.map Rng.cells)) => RetSlR (join8_c W v1 u1 a b h h' (by omega) (by omega))
  have HM := fun W (h : Sl W 2 v1 (a.map Rng.cells)) (h' : Sl W 2 u1 (b.map Rng.cells)) => RetSlR (meet8_c W v1 u1 a b h h' (by omega) (by omega))
  have HD := fun W (h : Sl W 2 v1 (a.map Rng.cells)) (h' : Sl W 2 u1 (b.map Rng.cells)) => RetSlR (minus8_c W v1 u1 a b h h' (by omega) (by omega))
  have H0 := fun W (h : Sl W 2 v1 (a.map Rng.cells)) (h' : Sl W 2 u1 (b.map Rng.cells)) => RetSlR (rtwo0_c W v1 u1 a b h h')
  have H1 := fun W (h : Sl W 2 v1 (a.map Rng.cells)) (h' : Sl W 2 u1 (b.map Rng.cells)) => RetSlR (rtwo1_c W v1 u1 a b h h')
  have H2 := fun W (h : Sl W 2 v1 (a.map Rng.cells)) (h' : Sl W 2 u1 (b.map Rng.cells)) => RetSlR (rtwo2_c W v1 u1 a b h h')
  generalize (nf fun n => sizes a n ∨ sizes b n) = N0 at *
  generalize (nf fun n => sizes a n ∧ sizes b n) = N1 at *
  generalize (nf fun n => sizes a n ∧ ¬ sizes b n) = N2 at *
  have HS0 := fun W y z (h : Sl W 2 y (N0.map Rng.cells)) h' => rsame8_c W y z N0 h h'
  have HS1 := fun W y z (h : Sl W 2 y (N1.map Rng.cells)) h' => rsame8_c W y z N1 h h'
  have HS2 := fun W y z (h : Sl W 2 y (N2.map Rng.cells)) h' => rsame8_c W y z N2 h h'
  go_enter Try.func10, Try.ntmps10
  go_wp2_with (first
    | (go_at_call 12; (with_reducible refine (HF1.out).mono ?_); rintro e w' ⟨rfl, rfl⟩)
    | (go_at_call 12; (with_reducible refine (HF2.out).mono ?_); rintro e w' ⟨rfl, rfl⟩)
        | (go_at_call 17; have tok := HX_9; clear tok; (with_reducible refine (HS2 _ _ _ D_9.out P_9.out).mono ?_); rintro e w_10 ⟨rfl, hx⟩; have HX_10 := hid (HX_9.out.trans hx); clear hx)
        | (go_at_call 51; have tok := HX_8; clear tok; (with_reducible refine (H2 _ A_8.out B_8.out).mono ?_); rintro e w_9 ⟨Pv, rfl, hv, hx⟩; have HX_9 := hid (HX_8.out.trans hx); have D_9 := hid (D_8.out.ext hx); have P_9 := hid hv; clear hv; clear hx)
        | (go_at_call 53; have tok := HX_7; clear tok; (with_reducible refine (HD _ A_7.out B_7.out).mono ?_); rintro e w_8 ⟨Dv, rfl, hv, hx⟩; have HX_8 := hid (HX_7.out.trans hx); have A_8 := hid (A_7.out.ext hx); have B_8 := hid (B_7.out.ext hx); have D_8 := hid hv; clear hv; clear hx)
        | (go_at_call 17; have tok := HX_6; clear tok; (with_reducible refine (HS1 _ _ _ M_6.out Q_6.out).mono ?_); rintro e w_7 ⟨rfl, hx⟩; have HX_7 := hid (HX_6.out.trans hx); have A_7 := hid (A_6.out.ext hx); have B_7 := hid (B_6.out.ext hx); clear hx)
        | (go_at_call 51; have tok := HX_5; clear tok; (with_reducible refine (H1 _ A_5.out B_5.out).mono ?_); rintro e w_6 ⟨Qv, rfl, hv, hx⟩; have HX_6 := hid (HX_5.out.trans hx); have A_6 := hid (A_5.out.ext hx); have B_6 := hid (B_5.out.ext hx); have M_6 := hid (M_5.out.ext hx); have Q_6 := hid hv; clear hv; clear hx)
        | (go_at_call 52; have tok := HX_4; clear tok; (with_reducible refine (HM _ A_4.out B_4.out).mono ?_); rintro e w_5 ⟨Mv, rfl, hv, hx⟩; have HX_5 := hid (HX_4.out.trans hx); have A_5 := hid (A_4.out.ext hx); have B_5 := hid (B_4.out.ext hx); have M_5 := hid hv; clear hv; clear hx)
        | (go_at_call 17; have tok := HX_3; clear tok; (with_reducible refine (HS0 _ _ _ J_3.out R_3.out).mono ?_); rintro e w_4 ⟨rfl, hx⟩; have HX_4 := hid (HX_3.out.trans hx); have A_4 := hid (A_3.out.ext hx); have B_4 := hid (B_3.out.ext hx); clear hx)
        | (go_at_call 51; have tok := HX_2; clear tok; (with_reducible refine (H0 _ A_2.out B_2.out).mono ?_); rintro e w_3 ⟨Rv, rfl, hv, hx⟩; have HX_3 := hid (HX_2.out.trans hx); have A_3 := hid (A_2.out.ext hx); have B_3 := hid (B_2.out.ext hx); have J_3 := hid (J_2.out.ext hx); have R_3 := hid hv; clear hv; clear hx)
        | (go_at_call 50; have tok := HX_1; clear tok; (with_reducible refine (HJ _ A_1.out B_1.out).mono ?_); rintro e w_2 ⟨Jv, rfl, hv, hx⟩; have HX_2 := hid (HX_1.out.trans hx); have A_2 := hid (A_1.out.ext hx); have B_2 := hid (B_1.out.ext hx); have J_2 := hid hv; clear hv; clear hx)
        | (go_at_call 16; have tok := HX_0; clear tok; (with_reducible refine (awake8_c _).mono ?_); rintro e w_1 ⟨rfl, hx⟩; have HX_1 := hid (HX_0.out.trans hx); have A_1 := hid (A_0.out.ext hx); have B_1 := hid (B_0.out.ext hx); clear hx))
  go_ret
  exact ⟨rfl, HX_10.out⟩

theorem diff_form (a b : List Rng) : IsForm (nf fun n => sizes a n ∧ ¬ sizes b n) ∧ (∀ n, memS (nf fun n => sizes a n ∧ ¬ sizes b n) n ↔ sizes a n ∧ ¬ sizes b n) ∧ (nf fun n => sizes a n ∧ ¬ sizes b n).length ≤ a.length * (b.length + 1) := by
  obtain ⟨fa1, fa2, fa3⟩ := nf_form a
  obtain ⟨fb1, fb2, fb3⟩ := nf_form b
  obtain ⟨g1, g2, g3⟩ := nf_form (restL 0 (nf (sizes b)))
  rw [restL_len] at g3
  have hL : ∀ n, sizes (caps (nf (sizes a)) (nf (sizes (restL 0 (nf (sizes b)))))) n ↔ sizes a n ∧ ¬ sizes b n := fun n => by
    rw [mem_caps fa1 g1, fa2, g2, restL_mem _ 0 (Int.le_refl _) fb1 (fun r hr => (fb1.ok r hr).1), fb2]
    constructor
    · rintro ⟨x, _, _, y⟩; exact ⟨x, y⟩
    · rintro ⟨x, y⟩; exact ⟨x, x.2.1, x.1, y⟩
  obtain ⟨k1, k2, k3⟩ := nf_form (caps (nf (sizes a)) (nf (sizes (restL 0 (nf (sizes b))))))
  rw [nf_congr hL] at k1 k2 k3
  rw [caps_len] at k3
  exact ⟨k1, fun n => (k2 n).trans (hL n), Nat.le_trans k3 (Nat.mul_le_mul fa3 (by omega))⟩
theorem diff_none (a b : List Rng) : (nf fun n => sizes a n ∧ ¬ sizes b n).length = 0 ↔ ∀ n, sizes a n → sizes b n := by
  obtain ⟨h1, h2, _⟩ := diff_form a b
  constructor
  · intro h0 n hn
    by_cases hb : sizes b n
    · exact hb
    · have := (h2 n).2 ⟨hn, hb⟩
      rw [List.eq_nil_of_length_eq_zero h0, memS_nil] at this
      exact this.elim
  · intro hall
    rcases h : (nf fun n => sizes a n ∧ ¬ sizes b n) with _ | ⟨r, l⟩
    · rfl
    · have hr := h1.ok r (by rw [h]; simp)
      have := (h2 r.lo).1 ⟨r, by rw [h]; simp, Int.le_refl _, hr.2.1⟩
      exact absurd (hall _ this.1) this.2
theorem same_diff (a b : List Rng) : decide (nf (sizes a) = nf (sizes b)) = (((nf fun n => sizes b n ∧ ¬ sizes a n).length : Int) + ((nf fun n => sizes a n ∧ ¬ sizes b n).length : Int) == 0) := by
  have e1 := diff_none a b
  have e2 := diff_none b a
  have e3 : nf (sizes a) = nf (sizes b) ↔ ∀ n, sizes a n ↔ sizes b n := by
    constructor
    · intro h n
      obtain ⟨_, f2, _⟩ := nf_form a
      obtain ⟨_, g2, _⟩ := nf_form b
      rw [← f2, h, g2]
    · exact nf_congr
  rw [Bool.eq_iff_iff, decide_eq_true_eq, beq_iff_eq, e3]
  constructor
  · intro h
    have := e1.2 fun n => (h n).1
    have := e2.2 fun n => (h n).2
    omega
  · intro h n
    exact ⟨e1.1 (by omega) n, e2.1 (by omega) n⟩

set_option maxRecDepth 100000 in
set_option maxHeartbeats 4000000 in
theorem covers_walk (a0 b0 : List Rng) (v u : Value) (w : World) (h : Sl w 2 v (a0.map Rng.cells)) (hb : Sl w 2 u (b0.map Rng.cells)) : Calls Try.prog 11 #[v, u] w (Ret (.bool true) w) := by
  obtain ⟨v1, hF1, hA⟩ := few8_x w v a0 h
  obtain ⟨u1, hF2, hB⟩ := few8_x w u b0 hb
  have HF1 := hid hF1
  have HF2 := hid hF2
  clear hF1 hF2
  have hla : (a0.take 30).length ≤ 30 := by rw [List.length_take]; omega
  have hlb : (b0.take 30).length ≤ 30 := by rw [List.length_take]; omega
  obtain ⟨A, c, rfl, _⟩ := sl_get h
  obtain ⟨A', c', rfl, _⟩ := sl_get hb
  clear h hb
  generalize a0.take 30 = a at hA hla
  generalize b0.take 30 = b at hB hlb
  have A_0 := hid hA
  have B_0 := hid hB
  have HX_0 := hid (Ext.refl w)
  clear hA hB
  have H21 := fun W (h : Sl W 2 v1 (a.map Rng.cells)) (h' : Sl W 2 u1 (b.map Rng.cells)) => RetSlR (rtwo2_c W u1 v1 b a h' h)
  have H12 := fun W (h : Sl W 2 v1 (a.map Rng.cells)) (h' : Sl W 2 u1 (b.map Rng.cells)) => RetSlR (rtwo2_c W v1 u1 a b h h')
  have HC1 := fun W (h : Sl W 2 v1 (a.map Rng.cells)) (h' : Sl W 2 u1 (b.map Rng.cells)) => covers_c W v1 u1 a b h h' (by omega) (by omega)
  have HC2 := fun W (h : Sl W 2 v1 (a.map Rng.cells)) (h' : Sl W 2 u1 (b.map Rng.cells)) => covers_c W u1 v1 b a h' h (by omega) (by omega)
  have HSa := fun W (h : Sl W 2 v1 (a.map Rng.cells)) (h' : Sl W 2 u1 (b.map Rng.cells)) => same8_c W v1 u1 a b h h' (by omega) (by omega)
  have HNo := fun W (h : Sl W 2 v1 (a.map Rng.cells)) => RetSlR (norm_c W v1 a h (by omega))
  obtain ⟨_, _, fa3⟩ := nf_form a
  have HSn := fun W (x : Value) (h : Sl W 2 v1 (a.map Rng.cells)) (h' : Sl W 2 x ((nf (sizes a)).map Rng.cells)) => same8_c W v1 x a _ h h' (by omega) (by omega)
  rw [nf_again, decide_eq_true (rfl : nf (sizes a) = nf (sizes a))] at HSn
  have HC3 := fun W (h : Sl W 2 v1 (a.map Rng.cells)) => covers_c W v1 v1 a a h h (by omega) (by omega)
  rw [(diff_none a a).2 (fun _ h => h)] at HC3
  rw [same_diff] at HSa
  have q1 := (diff_form b a).2.2
  have q2 := (diff_form a b).2.2
  have m1 := Nat.mul_le_mul hlb (show a.length + 1 ≤ 31 by omega)
  have m2 := Nat.mul_le_mul hla (show b.length + 1 ≤ 31 by omega)
  generalize nf (sizes a) = NA at *
  generalize (nf fun n => sizes b n ∧ ¬ sizes a n) = N1 at *
  generalize (nf fun n => sizes a n ∧ ¬ sizes b n) = N2 at *
  obtain ⟨n1, hn1⟩ : ∃ n, N1.length = n := ⟨_, rfl⟩
  obtain ⟨n2, hn2⟩ : ∃ n, N2.length = n := ⟨_, rfl⟩
  rw [hn1] at HC1 HSa q1
  rw [hn2] at HC2 HSa q2
  have b1 : n1 ≤ 930 := by omega
  have b2 : n2 ≤ 930 := by omega
  have HN1 := hid hn1
  have HN2 := hid hn2
  clear hn1 hn2 q1 q2 m1 m2
  go_enter Try.func11, Try.ntmps11
  go_wp2_with (first
    | (go_at_call 12; (with_reducible refine (HF1.out).mono ?_); rintro e w' ⟨rfl, rfl⟩)
    | (go_at_call 12; (with_reducible refine (HF2.out).mono ?_); rintro e w' ⟨rfl, rfl⟩)
        | (go_at_call 54; have tok := HX_8; clear tok; (with_reducible refine (HC3 _ A_8.out).mono ?_); rintro e w_9 ⟨rfl, hx⟩; have HX_9 := hid (HX_8.out.trans hx); clear hx)
        | (go_at_call 55; have tok := HX_7; clear tok; (with_reducible refine (HSn _ _ A_7.out N_7.out).mono ?_); rintro e w_8 ⟨rfl, hx⟩; have HX_8 := hid (HX_7.out.trans hx); have A_8 := hid (A_7.out.ext hx); clear hx)
        | (go_at_call 13; have tok := HX_6; clear tok; (with_reducible refine (HNo _ A_6.out).mono ?_); rintro e w_7 ⟨Nv, rfl, hv, hx⟩; have HX_7 := hid (HX_6.out.trans hx); have A_7 := hid (A_6.out.ext hx); have N_7 := hid hv; clear hv; clear hx)
        | (go_at_call 55; have tok := HX_5; clear tok; (with_reducible refine (HSa _ A_5.out B_5.out).mono ?_); rintro e w_6 ⟨rfl, hx⟩; have HX_6 := hid (HX_5.out.trans hx); have A_6 := hid (A_5.out.ext hx); clear hx)
        | (go_at_call 54; have tok := HX_4; clear tok; (with_reducible refine (HC2 _ A_4.out B_4.out).mono ?_); rintro e w_5 ⟨rfl, hx⟩; have HX_5 := hid (HX_4.out.trans hx); have A_5 := hid (A_4.out.ext hx); have B_5 := hid (B_4.out.ext hx); clear hx)
        | (go_at_call 54; have tok := HX_3; clear tok; (with_reducible refine (HC1 _ A_3.out B_3.out).mono ?_); rintro e w_4 ⟨rfl, hx⟩; have HX_4 := hid (HX_3.out.trans hx); have A_4 := hid (A_3.out.ext hx); have B_4 := hid (B_3.out.ext hx); clear hx)
        | (go_at_call 16; have tok := HX_2; clear tok; (with_reducible refine (awake8_c _).mono ?_); rintro e w_3 ⟨rfl, hx⟩; have HX_3 := hid (HX_2.out.trans hx); have A_3 := hid (A_2.out.ext hx); have B_3 := hid (B_2.out.ext hx); clear hx)
        | (go_at_call 51; have tok := HX_1; clear tok; (with_reducible refine (H12 _ A_1.out B_1.out).mono ?_); rintro e w_2 ⟨Yv, rfl, hv, hx⟩; obtain ⟨py, qy, hp, _⟩ := sl_get hv; rw [HN2.out] at hp; subst hp; have HX_2 := hid (HX_1.out.trans hx); have A_2 := hid (A_1.out.ext hx); have B_2 := hid (B_1.out.ext hx); have Y_2 := hid hv; clear hv; clear hx)
        | (go_at_call 51; have tok := HX_0; clear tok; (with_reducible refine (H21 _ A_0.out B_0.out).mono ?_); rintro e w_1 ⟨Xv, rfl, hv, hx⟩; obtain ⟨px, qx, hp, _⟩ := sl_get hv; rw [HN1.out] at hp; subst hp; have HX_1 := hid (HX_0.out.trans hx); have A_1 := hid (A_0.out.ext hx); have B_1 := hid (B_0.out.ext hx); have X_1 := hid hv; clear hv; clear hx))
  go_ret
  exact ⟨rfl, HX_9.out⟩
end Go.Proofs.Ytefgjkaoidifbaa
