/-
  lighteragelaw43.UsageOf: its walk.
-/
import Derived.Test.YtfoafookodldfaaUsI
namespace Go.Proofs.Ytfoafookodldfaa
set_option linter.unusedSimpArgs false
set_option linter.unusedVariables false
open Go.RowKit

theorem few100_few (l : List LeafI) : Few100 (fewK l) := ⟨Nat.le_trans (few_length l) (by omega), fun x hx => by
  have := few_small hx
  omega⟩
set_option maxRecDepth 100000 in
set_option maxHeartbeats 4000000 in
theorem usageOf_walk (w : World) (v : Value) (l : List LeafI) (p : ByteArray) (h : Sl w 5 v (Leaves l)) (hp : p.size ≤ maxLen) : Calls Try.prog 7 #[v, .string p] w (Ret (.bool true) w) := by
  have HF := hid (few_c w v l h)
  have hf := few100_few l
  generalize fewK l = q at HF hf
  unfold maxLen at hp
  by_cases h200 : 200 < p.size
  · have h2 : decide ((200 : Int) < (p.size : Int)) = true := by simp; omega
    go_enter Try.func7, Try.ntmps7
    go_wp2_with (go_at_call 27; refine (awake43_c _).mono ?_; rintro e v2 ⟨rfl, z2⟩)
    go_ret
    exact ⟨rfl, z2⟩
  · have h2 : decide ((200 : Int) < (p.size : Int)) = false := by simp; omega
    have HO : Hid (∀ W v, Sl W 5 v (Leaves q) → Calls Try.prog 29 #[v, .string p] W (Ret (.agg #[.string p, .int .i64 (filesK q p), .int .i64 (bytesK q p)]) W)) := fun W v h => uof_c W v q p h hf.slim (by omega)
    have HR : Hid (∀ W v, Sl W 5 v (Leaves q) → Calls Try.prog 30 #[v, .string p] W (Ret (.agg #[.string p, .int .i64 (filesK q p), .int .i64 (bytesK q p)]) W)) := fun W v h => rof_c W v q p h hf.slim (by omega)
    have HA : Hid (∀ W v, Sl W 5 v (Leaves q) → Calls Try.prog 32 #[v] W (RetQ (fun v' w' => Sl w' 3 v' (Uses (allK q (preK q)))) W)) := fun W v h => uall_c W v q h hf
    have HB : Hid (∀ W v, Sl W 5 v (Leaves q) → Calls Try.prog 33 #[v] W (RetQ (fun v' w' => Sl w' 3 v' (Uses (allK q (preK q)))) W)) := fun W v h => rall_c W v q h hf
    generalize allK q (preK q) = us at HA HB
    generalize filesK q p = fk at HO HR
    generalize bytesK q p = bk at HO HR
    clear h hf
    go_enter Try.func7, Try.ntmps7
    go_wp2_with (first
      | (go_at_call 28; refine (HF.out).mono ?_; rintro e w1 ⟨v1, rfl, hv, hx⟩; have HV := hid hv; have HX := hid hx; clear hv hx)
      | (go_at_call 27; refine (awake43_c _).mono ?_; rintro e w2 ⟨rfl, hx⟩; have HV := hid (HV.out.ext hx); have HX := hid (HX.out.trans hx); clear hx)
      | (go_at_call 29; refine (HO.out _ _ HV.out).mono ?_; rintro e w3 ⟨rfl, hx⟩; have HV := hid (HV.out.ext hx); have HX := hid (HX.out.trans hx); clear hx)
      | (go_at_call 30; refine (HR.out _ _ HV.out).mono ?_; rintro e w4 ⟨rfl, hx⟩; have HV := hid (HV.out.ext hx); have HX := hid (HX.out.trans hx); clear hx)
      | (go_at_call 32; refine (HA.out _ _ HV.out).mono ?_; rintro e w5 ⟨u1, rfl, hu, hx⟩; have HV := hid (HV.out.ext hx); have HX := hid (HX.out.trans hx); have HU1 := hid hu; clear hx hu)
      | (go_at_call 33; refine (HB.out _ _ HV.out).mono ?_; rintro e w6 ⟨u2, rfl, hu, hx⟩; have HV := hid (HV.out.ext hx); have HX := hid (HX.out.trans hx); have HU2 := hid hu; have HU1 := hid (HU1.out.ext hx); clear hx hu)
      | (go_at_call 31; refine (same_c _ _ _ us HU1.out HU2.out).mono ?_; rintro e w7 ⟨rfl, hx⟩; have HX := hid (HX.out.trans hx); clear hx))
    go_ret
    exact ⟨rfl, HX.out⟩
end Go.Proofs.Ytfoafookodldfaa
