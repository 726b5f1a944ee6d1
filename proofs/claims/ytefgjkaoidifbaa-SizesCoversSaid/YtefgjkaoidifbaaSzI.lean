/-
  The walk of the law SizesForm.
-/
import Derived.Test.YtefgjkaoidifbaaSzH
namespace Go.Proofs.Ytefgjkaoidifbaa
set_option linter.unusedSimpArgs false
set_option linter.unusedVariables false
open Go.RowKit

theorem RetSlR {P : Program} {f : FuncId} {args : Array Value} {w : World} {l : List Rng} (h : Calls P f args w (RetQ (RowAt Rng.cells 2 l) w)) : Calls P f args w (RetQ (fun v w' => Sl w' 2 v (l.map Rng.cells)) w) := h.mono fun _ _ ⟨v, h1, h2, h3⟩ => ⟨v, h1, h2.1, h3⟩
theorem form_of (l : List Rng) : nf (setB (upTo (holdsB l) 201)) = nf (sizes l) := nf_congr fun n => by
  rw [setB_upTo, holdsB_iff]
  constructor
  · exact fun h => h.2.2
  · exact fun h => ⟨h.1, h.2.1, h⟩
theorem holds_nf (l : List Rng) (n : Int) : holdsB (nf (sizes l)) n = holdsB l n := by
  obtain ⟨h1, h2, _⟩ := nf_form l
  rw [Bool.eq_iff_iff, holdsB_iff, holdsB_iff, sizes_form h1, h2]

set_option maxRecDepth 100000 in
set_option maxHeartbeats 4000000 in
theorem form_walk (l0 : List Rng) (n : Int) (v : Value) (w : World) (h : Sl w 2 v (l0.map Rng.cells)) : Calls Try.prog 3 #[v, .int .i64 n] w (Ret (.bool true) w) := by
  obtain ⟨v1, hF1, hA⟩ := few8_x w v l0 h
  have HF1 := hid hF1
  clear hF1
  have hla : (l0.take 30).length ≤ 30 := by rw [List.length_take]; omega
  obtain ⟨A, c, rfl, _⟩ := sl_get h
  clear h
  generalize l0.take 30 = l at hA hla
  have A_w := hid hA
  clear hA
  have HNl := fun W (h : Sl W 2 v1 (l.map Rng.cells)) => RetSlR (norm_c W v1 l h (by omega))
  have HOf := fun W (h : Sl W 2 v1 (l.map Rng.cells)) => rof8_c W v1 l h
  have HFo := fun W (x : Value) (h : Sl W 1 x ((upTo (holdsB l) 201).map bitC)) => RetSlR (rform_c W x _ h (by rw [upTo_len]; omega))
  rw [form_of] at HFo
  have HHl := fun W (h : Sl W 2 v1 (l.map Rng.cells)) => holds_c W v1 l n h
  have HRh := fun W (h : Sl W 2 v1 (l.map Rng.cells)) => rholds_c W v1 l n h
  have HMl := fun W (h : Sl W 2 v1 (l.map Rng.cells)) => many_c W v1 l h (by omega)
  obtain ⟨f1, _, f3⟩ := nf_form l
  have HHx := fun W (x : Value) (h : Sl W 2 x ((nf (sizes l)).map Rng.cells)) => holds_c W x _ n h
  have HNx := fun W (x : Value) (h : Sl W 2 x ((nf (sizes l)).map Rng.cells)) => RetSlR (norm_c W x _ h (by omega))
  rw [nf_again] at HNx
  rw [holds_nf] at HHx
  generalize holdsB l n = r at HHl HRh HHx
  generalize nf (sizes l) = N at *
  have HSm := fun W y z (h : Sl W 2 y (N.map Rng.cells)) h' => rsame8_c W y z N h h'
  have hb := manyK_le f1
  go_enter Try.func3, Try.ntmps3
  go_wp2_with (first
    | (go_at_call 12; (with_reducible refine (HF1.out).mono ?_); rintro e w' ⟨rfl, rfl⟩)
    | (go_at_call 14; have tok := HQ2; clear tok; (with_reducible refine (HFo _ _ OB.out).mono ?_); rintro e w3 ⟨wt, rfl, hv, hx⟩; have HX_0 := hid (HQ2.out.trans hx); have A_0 := hid (A_2.out.ext hx); have X1_0 := hid (X1_2.out.ext hx); have WT_0 := hid hv; clear hv hx)
    | (go_at_call 15; have tok := HQ1; clear tok; (with_reducible refine (HOf _ A_1.out).mono ?_); rintro e w2 ⟨ob, rfl, hv, hx⟩; have HQ2 := hid (HQ1.out.trans hx); have A_2 := hid (A_1.out.ext hx); have X1_2 := hid (X1_1.out.ext hx); have OB := hid hv; clear hv hx)
    | (go_at_call 13; (with_reducible refine (HNl _ A_w.out).mono ?_); rintro e w1 ⟨x1, rfl, hv, hx⟩; have HQ1 := hid hx; have A_1 := hid (A_w.out.ext hx); have X1_1 := hid hv; clear hv hx))
  obtain ⟨A1, c1, hu, q1, q2, q3⟩ := sl_get WT_0.out
  subst hu
  unfold maxLen at q2
  obtain ⟨wo, hwo⟩ : ∃ wo : World, wo = w3 := ⟨_, rfl⟩
  go_loopw [7, 8] (fun s i wr => ∃ k : Nat, k ≤ N.length ∧ s = .int .i64 (manyK (N.take k)) ∧ i = .int .i64 k ∧ Ext wo wr) (fun _ i _ => N.length - (intOf i).toNat)
  case atStart => exact ⟨0, by omega, by simp [manyK], rfl, by rw [hwo]; exact Ext.refl _⟩
  case round =>
    obtain ⟨k, hk, rfl, rfl, hE⟩ := hrel
    rw [hwo] at hE
    have HE := hid hE
    by_cases hlt : k < N.length
    · obtain ⟨b', o, rfl, lb, hcell⟩ := q3 (by omega)
      have c0 := hE.cell (hcell k hlt 0 _ rfl)
      have c1 := hE.cell (hcell k hlt 1 _ rfl)
      rw [Nat.add_zero] at c0
      have HS := hid (manyK_take N k hlt)
      have hb1 := hb k hk
      have ho := f1.ok _ (List.getElem_mem hlt)
      have lbr := Nat.lt_of_lt_of_le lb hE.size
      unfold Ok1 at ho
      have HWO := hid hwo
      clear hE hcell q3 hb hwo
      generalize N[k] = z at c0 c1 HS ho
      generalize manyK (N.take k) = s at HS hb1 ⊢
      go_wp2_with fail
      have e1 : IntKind.i64.wrap (z.hi - z.lo) = z.hi - z.lo := IntWalk.i64_in _ (by omega)
      have e2 : IntKind.i64.wrap (z.hi - z.lo + 1) = z.hi - z.lo + 1 := IntWalk.i64_in _ (by omega)
      have e3 : IntKind.i64.wrap (s + (z.hi - z.lo + 1)) = s + (z.hi - z.lo + 1) := IntWalk.i64_in _ (by omega)
      go_quiet (fail)
      clear e1 e2 e3
      go_wp2_with fail
      exact ⟨⟨k + 1, by omega, by rw [HS.out], by go_num, by rw [HWO.out]; exact HE.out.drewN' _⟩, by simp [intOf]; omega⟩
    · obtain rfl : k = N.length := by omega
      rw [List.take_length]
      have A_0' := hid (A_0.out.ext hE)
      have X1_0' := hid (X1_0.out.ext hE)
      have WT_0' := hid (WT_0.out.ext hE)
      have HX_0' := hid (HX_0.out.trans hE)
      clear hE q3 A_0 X1_0 WT_0 HX_0 hwo
      have A_0 := A_0'
      have X1_0 := X1_0'
      have WT_0 := WT_0'
      have HX_0 := HX_0'
      clear A_0' X1_0' WT_0' HX_0'
      go_wp2_with (first
        | (go_at_call 17; have tok := HX_8; clear tok; (with_reducible refine (HSm _ _ _ Y_8.out X1_8.out).mono ?_); rintro e w_9 ⟨rfl, hx⟩; have HX_9 := hid (HX_8.out.trans hx); clear hx)
        | (go_at_call 13; have tok := HX_7; clear tok; (with_reducible refine (HNx _ _ X1_7.out).mono ?_); rintro e w_8 ⟨Yv, rfl, hv, hx⟩; have HX_8 := hid (HX_7.out.trans hx); have X1_8 := hid (X1_7.out.ext hx); have Y_8 := hid hv; clear hv; clear hx)
        | (go_at_call 20; have tok := HX_6; clear tok; (with_reducible refine (HMl _ A_6.out).mono ?_); rintro e w_7 ⟨rfl, hx⟩; have HX_7 := hid (HX_6.out.trans hx); have X1_7 := hid (X1_6.out.ext hx); clear hx)
        | (go_at_call 19; have tok := HX_5; clear tok; (with_reducible refine (HRh _ A_5.out).mono ?_); rintro e w_6 ⟨rfl, hx⟩; have HX_6 := hid (HX_5.out.trans hx); have A_6 := hid (A_5.out.ext hx); have X1_6 := hid (X1_5.out.ext hx); clear hx)
        | (go_at_call 18; have tok := HX_4; clear tok; (with_reducible refine (HHx _ _ X1_4.out).mono ?_); rintro e w_5 ⟨rfl, hx⟩; have HX_5 := hid (HX_4.out.trans hx); have A_5 := hid (A_4.out.ext hx); have X1_5 := hid (X1_4.out.ext hx); clear hx)
        | (go_at_call 19; have tok := HX_3; clear tok; (with_reducible refine (HRh _ A_3.out).mono ?_); rintro e w_4 ⟨rfl, hx⟩; have HX_4 := hid (HX_3.out.trans hx); have A_4 := hid (A_3.out.ext hx); have X1_4 := hid (X1_3.out.ext hx); clear hx)
        | (go_at_call 18; have tok := HX_2; clear tok; (with_reducible refine (HHl _ A_2.out).mono ?_); rintro e w_3 ⟨rfl, hx⟩; have HX_3 := hid (HX_2.out.trans hx); have A_3 := hid (A_2.out.ext hx); have X1_3 := hid (X1_2.out.ext hx); clear hx)
        | (go_at_call 17; have tok := HX_1; clear tok; (with_reducible refine (HSm _ _ _ X1_1.out WT_1.out).mono ?_); rintro e w_2 ⟨rfl, hx⟩; have HX_2 := hid (HX_1.out.trans hx); have A_2 := hid (A_1.out.ext hx); have X1_2 := hid (X1_1.out.ext hx); clear hx)
        | (go_at_call 16; have tok := HX_0; clear tok; (with_reducible refine (awake8_c _).mono ?_); rintro e w_1 ⟨rfl, hx⟩; have HX_1 := hid (HX_0.out.trans hx); have A_1 := hid (A_0.out.ext hx); have X1_1 := hid (X1_0.out.ext hx); have WT_1 := hid (WT_0.out.ext hx); clear hx))
      go_ret
      exact ⟨rfl, HX_9.out⟩
end Go.Proofs.Ytefgjkaoidifbaa
