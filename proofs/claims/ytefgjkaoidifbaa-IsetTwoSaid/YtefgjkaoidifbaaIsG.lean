/-
  The walk of the law IsetTwo.
-/
import Derived.Test.YtefgjkaoidifbaaIsF
namespace Go.Proofs.Ytefgjkaoidifbaa
set_option linter.unusedSimpArgs false
set_option linter.unusedVariables false
open Go.RowKit

theorem RetSl {P : Program} {f : FuncId} {args : Array Value} {w : World} {code : Ver → List Value} {sz : Nat} {l : List Ver} (h : Calls P f args w (RetQ (RowAt code sz l) w)) : Calls P f args w (RetQ (fun v w' => Sl w' sz v (l.map code)) w) := h.mono fun _ _ ⟨v, h1, h2, h3⟩ => ⟨v, h1, h2.1, h3⟩
/-- append(append([]T{}, a...), b...). -/
theorem app_two {P : Program} {t e : TypeId} {bytes : Nat} (hE : Elem P t e 2 bytes) {w : World} {u v : Value} {a b : List Ver} (h : Sl w 2 u (a.map Ver.cells)) (h' : Sl w 2 v (b.map Ver.cells)) (hl : a.length ≤ 100000) (hl' : b.length ≤ 100000) (hb : bytes ≤ 1000000) :
    ∃ v1 w1 v2 w2, (Builtin.append_ #[t, t] t #[.slice (some ⟨w.heap.size, 0, none⟩) 0 0, u]).run P (w.alloc (.cells #[] e)) = .ok v1 w1 ∧ (Builtin.append_ #[t, t] t #[v1, v]).run P w1 = .ok v2 w2 ∧ Sl w2 2 v2 ((a ++ b).map Ver.cells) ∧ Ext w w2 := by
  have hbb : ∀ q, q ≤ 2000001 → q * bytes ≤ 140737488355328 := fun q hq => Nat.le_trans (Nat.mul_le_mul hq hb) (by decide)
  have e0 : Ext w (w.alloc (.cells #[] e)) := Ext.alloc _ _
  have o0 := own_lit (w := w) (Nat.le_refl _) e 2 0 #[] (by unfold maxLen; omega) (by simp)
  obtain ⟨v1, w1, hr, ho, hk, _⟩ := app_row (ty := t) hE o0 e0.size (src_of_sl hE.slice ver_coded h e0) (by unfold maxLen; omega) (hbb _ (by omega))
  have e1 := hk.toExt e0 fun q hq => (row_block o0 q hq).1
  obtain ⟨v2, w2, hr2, ho2, hk2, _⟩ := app_row (ty := t) hE ho e1.size (src_of_sl hE.slice ver_coded h' e1) (by unfold maxLen; omega) (hbb _ (by omega))
  refine ⟨v1, w1, v2, w2, hr, hr2, ?_, hk2.toExt e1 fun q hq => (row_block ho q hq).1⟩
  refine sl_of_row (e := e) (base := w.heap.size) (ver_coded.sizes _) ?_
  rw [List.length_map]
  simpa using ho2

theorem few_x (w : World) (v : Value) (l : List Ver) (h : Sl w 2 v (l.map Ver.cells)) : ∃ v1, Calls Try.prog 25 #[v] w (fun e w' => e = .returned v1 ∧ w = w') ∧ Sl w 2 v1 ((l.take 50).map Ver.cells) := by
  have h0 := h
  obtain ⟨A, c, rfl, h1, h2, h3⟩ := sl_get h
  unfold maxLen at h2
  clear h
  by_cases hgt : 50 < l.length
  · have d0 : decide ((50 : Int) < (l.length : Int)) = true := by simp; omega
    obtain ⟨b, o, rfl, lb, _⟩ := h3 (by omega)
    have hs := sl_take (m := 50) h0 (by omega)
    rw [← List.map_take] at hs
    refine ⟨_, ?_, hs⟩
    clear hs h0 h3
    go_enter Try.func25, Try.ntmps25
    go_wp2_with fail
    go_ret
    exact ⟨rfl, rfl⟩
  · have d0 : decide ((50 : Int) < (l.length : Int)) = false := by simp; omega
    refine ⟨_, ?_, by rw [List.take_of_length_le (by omega)]; exact h0⟩
    clear h0 h3
    go_enter Try.func25, Try.ntmps25
    go_wp2_with fail
    go_ret
    exact ⟨rfl, rfl⟩
set_option maxRecDepth 100000 in
set_option maxHeartbeats 4000000 in
theorem two_walk (a0 b0 : List Ver) (v u : Value) (w : World) (h : Sl w 2 v (a0.map Ver.cells)) (hb : Sl w 2 u (b0.map Ver.cells)) : Calls Try.prog 6 #[v, u] w (Ret (.bool true) w) := by
  obtain ⟨v1, hF1, hA⟩ : ∃ v1, Calls Try.prog 25 #[v] w (fun e w' => e = .returned v1 ∧ w = w') ∧ Sl w 2 v1 ((a0.take 50).map Ver.cells) := few_x w v a0 h
  obtain ⟨u1, hF2, hB⟩ : ∃ u1, Calls Try.prog 25 #[u] w (fun e w' => e = .returned u1 ∧ w = w') ∧ Sl w 2 u1 ((b0.take 50).map Ver.cells) := few_x w u b0 hb
  have HF1 := hid hF1
  have HF2 := hid hF2
  clear hF1 hF2
  have hla : (a0.take 50).length ≤ 50 := by rw [List.length_take]; omega
  have hlb : (b0.take 50).length ≤ 50 := by rw [List.length_take]; omega
  obtain ⟨A, c, rfl, _⟩ := sl_get h
  obtain ⟨A', c', rfl, _⟩ := sl_get hb
  clear h hb
  generalize a0.take 50 = a at hA hla
  generalize b0.take 50 = b at hB hlb
  obtain ⟨v2, w2, hr1, hP, hx2⟩ := app_copy (P := Try.prog) (tx := 42) (ty := 42) ver_elem ver_coded Try.underlying42 hA (by omega) (by omega)
  obtain ⟨v3, w3, hr2, hQ, hx3⟩ := app_copy (P := Try.prog) (tx := 42) (ty := 42) ver_elem ver_coded Try.underlying42 (hB.ext hx2) (by omega) (by omega)
  obtain ⟨v4, w4, v5, w5, hr3, hr4, hAB, hx5⟩ := app_two (P := Try.prog) ver_elem (hA.ext (hx2.trans hx3)) (hB.ext (hx2.trans hx3)) (by omega) (by omega) (by omega)
  have HX_0 := hid ((hx2.trans hx3).trans hx5)
  have A_0 := hid (hA.ext HX_0.out)
  have B_0 := hid (hB.ext HX_0.out)
  have P_0 := hid (hP.ext (hx3.trans hx5))
  have Q_0 := hid (hQ.ext hx5)
  have AB_0 := hid hAB
  clear hA hB hP hQ hAB hx2 hx3 hx5
  have HOf := fun W (h : Sl W 2 v5 ((a ++ b).map Ver.cells)) => RetSl (rof_c W v5 (a ++ b) h (by rw [List.length_append]; omega))
  have HMa := fun W (h : Sl W 2 v1 (a.map Ver.cells)) (h' : Sl W 2 u1 (b.map Ver.cells)) => RetSl (rminus_c W v1 u1 a b h h' (by omega))
  have HMb := fun W (h : Sl W 2 v1 (a.map Ver.cells)) (h' : Sl W 2 u1 (b.map Ver.cells)) => RetSl (rminus_c W u1 v1 b a h' h (by omega))
  have HJo := fun W (h : Sl W 2 v1 (a.map Ver.cells)) (h' : Sl W 2 u1 (b.map Ver.cells)) => RetSl (join_c W v1 u1 a b h h' (by omega) (by omega))
  have HMe := fun W (h : Sl W 2 v1 (a.map Ver.cells)) (h' : Sl W 2 u1 (b.map Ver.cells)) => RetSl (meet_c W v1 u1 a b h h' (by omega))
  have HRMe := fun W (h : Sl W 2 v1 (a.map Ver.cells)) (h' : Sl W 2 u1 (b.map Ver.cells)) => RetSl (rmeet_c W v1 u1 a b h h' (by omega))
  have HMi := fun W (h : Sl W 2 v1 (a.map Ver.cells)) (h' : Sl W 2 u1 (b.map Ver.cells)) => RetSl (minus_c W v1 u1 a b h h' (by omega))
  have HSj := fun W y z (h : Sl W 2 y ((setL Ver.lt (a ++ b)).map Ver.cells)) h' => rsame_c W y z (setL Ver.lt (a ++ b)) h h'
  have HSm := fun W y z (h : Sl W 2 y ((meetV a b).map Ver.cells)) h' => rsame_c W y z (meetV a b) h h'
  have HSd := fun W y z (h : Sl W 2 y ((minusV a b).map Ver.cells)) h' => rsame_c W y z (minusV a b) h h'
  have HSp := fun W h h' => rsame_c W v1 v2 a h h'
  have HSq := fun W h h' => rsame_c W u1 v3 b h h'
  have HW1 := fun W (h : Sl W 2 v1 (a.map Ver.cells)) (h' : Sl W 2 u1 (b.map Ver.cells)) => within_c W v1 u1 a b h h' (by omega)
  have HW2 := fun W (h : Sl W 2 v1 (a.map Ver.cells)) (h' : Sl W 2 u1 (b.map Ver.cells)) => within_c W u1 v1 b a h' h (by omega)
  have HW3 := fun W (h : Sl W 2 v1 (a.map Ver.cells)) (h' : Sl W 2 u1 (b.map Ver.cells)) => isame_c W v1 u1 a b h h' (by omega) (by omega)
  obtain ⟨n1, hn1⟩ : ∃ n, (minusV a b).length = n := ⟨_, rfl⟩
  obtain ⟨n2, hn2⟩ : ∃ n, (minusV b a).length = n := ⟨_, rfl⟩
  have e1 : within a b = ((n1 : Int) == 0) := by rw [← hn1]; rfl
  have e2 : within b a = ((n2 : Int) == 0) := by rw [← hn2]; rfl
  rw [e1] at HW1 HW3
  rw [e2] at HW2 HW3
  have HN1 := hid hn1
  have HN2 := hid hn2
  clear e1 e2 hn1 hn2
  obtain ⟨b2, hb2⟩ : ∃ b2, ((n2 : Int) == 0) = b2 := ⟨_, rfl⟩
  rw [hb2] at HW2 HW3
  cases hb1 : ((n1 : Int) == 0)
  all_goals
    rw [hb1] at HW1 HW3
    simp only [Bool.true_and, Bool.false_and] at HW3
    go_enter Try.func6, Try.ntmps6
    go_wp2_with (first
      | (go_at_call 25; (with_reducible refine (HF1.out).mono ?_); rintro e w' ⟨rfl, rfl⟩)
      | (go_at_call 25; (with_reducible refine (HF2.out).mono ?_); rintro e w' ⟨rfl, rfl⟩)
      | (at_builtin; refine wpList_app rfl (.tmp 15) (.tmp 16) _ _ rfl rfl rfl hr1 ?_)
      | (at_builtin; refine wpList_app rfl (.tmp 18) (.tmp 19) _ _ rfl rfl rfl hr2 ?_)
      | (at_builtin; refine wpList_app rfl (.tmp 21) (.tmp 22) _ _ rfl rfl rfl hr3 ?_)
      | (at_builtin; refine wpList_app rfl (.tmp 23) (.tmp 24) _ _ rfl rfl rfl hr4 ?_)
      | (go_at_call 30; have tok := HX_16; clear tok; (with_reducible refine (HSq _ B_16.out Q_16.out).mono ?_); rintro e w_17 ⟨rfl, hx⟩; have HX_17 := hid (HX_16.out.trans hx); clear hx)
      | (go_at_call 30; have tok := HX_15; clear tok; (with_reducible refine (HSp _ A_15.out P_15.out).mono ?_); rintro e w_16 ⟨rfl, hx⟩; have HX_16 := hid (HX_15.out.trans hx); have B_16 := hid (B_15.out.ext hx); have Q_16 := hid (Q_15.out.ext hx); clear hx)
      | (go_at_call 41; have tok := HX_14; clear tok; (with_reducible refine (HW3 _ A_14.out B_14.out).mono ?_); rintro e w_15 ⟨rfl, hx⟩; have HX_15 := hid (HX_14.out.trans hx); have A_15 := hid (A_14.out.ext hx); have B_15 := hid (B_14.out.ext hx); have P_15 := hid (P_14.out.ext hx); have Q_15 := hid (Q_14.out.ext hx); clear hx)
      | (go_at_call 40; have tok := HX_13; clear tok; (with_reducible refine (HW2 _ A_13.out B_13.out).mono ?_); rintro e w_14 ⟨rfl, hx⟩; have HX_14 := hid (HX_13.out.trans hx); have A_14 := hid (A_13.out.ext hx); have B_14 := hid (B_13.out.ext hx); have P_14 := hid (P_13.out.ext hx); have Q_14 := hid (Q_13.out.ext hx); clear hx)
      | (go_at_call 40; have tok := HX_12; clear tok; (with_reducible refine (HW1 _ A_12.out B_12.out).mono ?_); rintro e w_13 ⟨rfl, hx⟩; have HX_13 := hid (HX_12.out.trans hx); have A_13 := hid (A_12.out.ext hx); have B_13 := hid (B_12.out.ext hx); have P_13 := hid (P_12.out.ext hx); have Q_13 := hid (Q_12.out.ext hx); clear hx)
      | (go_at_call 29; have tok := HX_11; clear tok; (with_reducible refine (awake_c _).mono ?_); rintro e w_12 ⟨rfl, hx⟩; have HX_12 := hid (HX_11.out.trans hx); have A_12 := hid (A_11.out.ext hx); have B_12 := hid (B_11.out.ext hx); have P_12 := hid (P_11.out.ext hx); have Q_12 := hid (Q_11.out.ext hx); clear hx)
      | (go_at_call 30; have tok := HX_10; clear tok; (with_reducible refine (HSd _ _ _ D_10.out RD_10.out).mono ?_); rintro e w_11 ⟨rfl, hx⟩; have HX_11 := hid (HX_10.out.trans hx); have A_11 := hid (A_10.out.ext hx); have B_11 := hid (B_10.out.ext hx); have P_11 := hid (P_10.out.ext hx); have Q_11 := hid (Q_10.out.ext hx); clear hx)
      | (go_at_call 35; have tok := HX_9; clear tok; (with_reducible refine (HMa _ A_9.out B_9.out).mono ?_); rintro e w_10 ⟨RDv, rfl, hv, hx⟩; have HX_10 := hid (HX_9.out.trans hx); have A_10 := hid (A_9.out.ext hx); have B_10 := hid (B_9.out.ext hx); have P_10 := hid (P_9.out.ext hx); have Q_10 := hid (Q_9.out.ext hx); have D_10 := hid (D_9.out.ext hx); have RD_10 := hid hv; clear hv; clear hx)
      | (go_at_call 39; have tok := HX_8; clear tok; (with_reducible refine (HMi _ A_8.out B_8.out).mono ?_); rintro e w_9 ⟨Dv, rfl, hv, hx⟩; have HX_9 := hid (HX_8.out.trans hx); have A_9 := hid (A_8.out.ext hx); have B_9 := hid (B_8.out.ext hx); have P_9 := hid (P_8.out.ext hx); have Q_9 := hid (Q_8.out.ext hx); have D_9 := hid hv; clear hv; clear hx)
      | (go_at_call 30; have tok := HX_7; clear tok; (with_reducible refine (HSm _ _ _ M_7.out RM_7.out).mono ?_); rintro e w_8 ⟨rfl, hx⟩; have HX_8 := hid (HX_7.out.trans hx); have A_8 := hid (A_7.out.ext hx); have B_8 := hid (B_7.out.ext hx); have P_8 := hid (P_7.out.ext hx); have Q_8 := hid (Q_7.out.ext hx); clear hx)
      | (go_at_call 38; have tok := HX_6; clear tok; (with_reducible refine (HRMe _ A_6.out B_6.out).mono ?_); rintro e w_7 ⟨RMv, rfl, hv, hx⟩; have HX_7 := hid (HX_6.out.trans hx); have A_7 := hid (A_6.out.ext hx); have B_7 := hid (B_6.out.ext hx); have P_7 := hid (P_6.out.ext hx); have Q_7 := hid (Q_6.out.ext hx); have M_7 := hid (M_6.out.ext hx); have RM_7 := hid hv; clear hv; clear hx)
      | (go_at_call 37; have tok := HX_5; clear tok; (with_reducible refine (HMe _ A_5.out B_5.out).mono ?_); rintro e w_6 ⟨Mv, rfl, hv, hx⟩; have HX_6 := hid (HX_5.out.trans hx); have A_6 := hid (A_5.out.ext hx); have B_6 := hid (B_5.out.ext hx); have P_6 := hid (P_5.out.ext hx); have Q_6 := hid (Q_5.out.ext hx); have M_6 := hid hv; clear hv; clear hx)
      | (go_at_call 30; have tok := HX_4; clear tok; (with_reducible refine (HSj _ _ _ J_4.out O_4.out).mono ?_); rintro e w_5 ⟨rfl, hx⟩; have HX_5 := hid (HX_4.out.trans hx); have A_5 := hid (A_4.out.ext hx); have B_5 := hid (B_4.out.ext hx); have P_5 := hid (P_4.out.ext hx); have Q_5 := hid (Q_4.out.ext hx); clear hx)
      | (go_at_call 36; have tok := HX_3; clear tok; (with_reducible refine (HJo _ A_3.out B_3.out).mono ?_); rintro e w_4 ⟨Jv, rfl, hv, hx⟩; have HX_4 := hid (HX_3.out.trans hx); have A_4 := hid (A_3.out.ext hx); have B_4 := hid (B_3.out.ext hx); have P_4 := hid (P_3.out.ext hx); have Q_4 := hid (Q_3.out.ext hx); have O_4 := hid (O_3.out.ext hx); have J_4 := hid hv; clear hv; clear hx)
      | (go_at_call 35; have tok := HX_2; clear tok; (with_reducible refine (HMb _ A_2.out B_2.out).mono ?_); rintro e w_3 ⟨Rbv, rfl, hv, hx⟩; obtain ⟨pb, qb, hp, _⟩ := sl_get hv; rw [HN2.out] at hp; subst hp; have HX_3 := hid (HX_2.out.trans hx); have A_3 := hid (A_2.out.ext hx); have B_3 := hid (B_2.out.ext hx); have P_3 := hid (P_2.out.ext hx); have Q_3 := hid (Q_2.out.ext hx); have O_3 := hid (O_2.out.ext hx); have Rb_3 := hid hv; clear hv; clear hx)
      | (go_at_call 35; have tok := HX_1; clear tok; (with_reducible refine (HMa _ A_1.out B_1.out).mono ?_); rintro e w_2 ⟨Rav, rfl, hv, hx⟩; obtain ⟨pa, qa, hp, _⟩ := sl_get hv; rw [HN1.out] at hp; subst hp; have HX_2 := hid (HX_1.out.trans hx); have A_2 := hid (A_1.out.ext hx); have B_2 := hid (B_1.out.ext hx); have P_2 := hid (P_1.out.ext hx); have Q_2 := hid (Q_1.out.ext hx); have O_2 := hid (O_1.out.ext hx); have Ra_2 := hid hv; clear hv; clear hx)
      | (go_at_call 26; have tok := HX_0; clear tok; (with_reducible refine (HOf _ AB_0.out).mono ?_); rintro e w_1 ⟨Ov, rfl, hv, hx⟩; have HX_1 := hid (HX_0.out.trans hx); have A_1 := hid (A_0.out.ext hx); have B_1 := hid (B_0.out.ext hx); have P_1 := hid (P_0.out.ext hx); have Q_1 := hid (Q_0.out.ext hx); have O_1 := hid hv; clear hv; clear hx))
    go_ret
    exact ⟨rfl, HX_17.out⟩
end Go.Proofs.Ytefgjkaoidifbaa
