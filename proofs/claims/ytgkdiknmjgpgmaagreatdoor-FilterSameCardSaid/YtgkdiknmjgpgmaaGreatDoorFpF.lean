/-
  lighteragelaw09.awake.
-/
import Derived.Test.YtgkdiknmjgpgmaaGreatDoorFpD
import Derived.Test.YtgkdiknmjgpgmaaGreatDoorFpE
namespace Go.Proofs.YtgkdiknmjgpgmaaGreatDoor
set_option linter.unusedSimpArgs false
set_option linter.unusedVariables false
open Go.RowKit Go.Sort

def nE : ByteArray := ⟨#[]⟩
def nA : ByteArray := ⟨#[97]⟩
def fL : List ClauseI := [⟨nA, 0, 9⟩, ⟨nE, 0, 5⟩]
def fN : List ClauseI := [⟨nE, 0, 5⟩, ⟨nA, 6, 9⟩]
theorem cov_dec (q s : Array UInt8) : cov ⟨q⟩ ⟨s⟩ = decide (q.toList = [] ∨ s.toList = q.toList ∨ (s.toList.take q.toList.length = q.toList ∧ s.toList[q.toList.length]? = some 47)) := by
  rw [Bool.eq_iff_iff, cov_iff2, decide_eq_true_eq, Lib.toList_data, Lib.toList_data]
theorem cov_EE : cov nE nE = true := by unfold nE; rw [cov_dec]; decide
theorem cov_EA : cov nE nA = true := by unfold nE nA; rw [cov_dec]; decide
theorem cov_AE : cov nA nE = false := by unfold nE nA; rw [cov_dec]; decide
theorem cov_AA : cov nA nA = true := by unfold nA; rw [cov_dec]; decide
theorem nA_ne : ¬ nA = nE := by decide
theorem preS_lit : preS fL = [nE, nA] := by
  refine srtL_eq blt_strict (setL_srt blt_strict _) ?_ fun x => ?_
  · refine List.pairwise_cons.2 ⟨fun y hy => ?_, List.pairwise_singleton _ _⟩
    rw [List.mem_singleton.1 hy, blt_iff]
    unfold nE nA
    rw [Lib.toList_data, Lib.toList_data]
    decide
  · rw [mem_preS]
    unfold fL
    simp only [List.mem_cons, List.not_mem_nil, or_false]
    constructor
    · rintro ⟨c, rfl | rfl, rfl⟩
      · exact .inr rfl
      · exact .inl rfl
    · rintro (rfl | rfl)
      · exact ⟨_, .inr rfl, rfl⟩
      · exact ⟨_, .inl rfl, rfl⟩
theorem own_E : ownF fL nE = [⟨0, 5⟩] := by
  have h1 : selR fL nE = [⟨0, 5⟩] := by unfold selR fL; simp [cov_EE, cov_AE, rngOf]
  have h2 : selR (abvF fL nE) nE = [] := by unfold abvF selR fL; simp [cov_EE, cov_AE]
  unfold ownF
  rw [h1, h2]
  refine (nf_is ⟨fun r hr => ?_, List.pairwise_singleton _ _⟩ fun n => ?_).symm
  · rw [List.mem_singleton.1 hr]; unfold Ok1; decide
  · unfold sizes; simp [memS_cons, memS_nil, inR]; omega
theorem own_A : ownF fL nA = [⟨6, 9⟩] := by
  have h1 : selR fL nA = [⟨0, 9⟩, ⟨0, 5⟩] := by unfold selR fL; simp [cov_EA, cov_AA, rngOf]
  have h2 : selR (abvF fL nA) nA = [⟨0, 5⟩] := by
    have hne : ¬ nE = nA := fun e => nA_ne e.symm
    unfold abvF selR fL; simp [cov_EA, cov_AA, hne, rngOf]
  unfold ownF
  rw [h1, h2]
  refine (nf_is ⟨fun r hr => ?_, List.pairwise_singleton _ _⟩ fun n => ?_).symm
  · rw [List.mem_singleton.1 hr]; unfold Ok1; decide
  · unfold sizes; simp [memS_cons, memS_nil, inR]; omega
theorem norm_lit : normF fL = fN := by
  unfold normF
  rw [preS_lit]
  unfold normL
  simp [own_E, own_A, mkC, fN]
theorem fL_light : LightF fL := fun c hc => by
  unfold fL at hc
  rcases List.mem_cons.1 hc with rfl | hc
  · decide
  · rw [List.mem_singleton.1 hc]; decide
theorem match_lit1 : fL.any (hitB ⟨⟨#[97, 47, 98]⟩, 9, false⟩) = true := by
  have h : cov nA ⟨#[97, 47, 98]⟩ = true := by unfold nA; rw [cov_dec]; decide
  unfold fL hitB
  simp only [List.any_cons, h]
  decide
theorem match_lit2 : fL.any (hitB ⟨⟨#[98]⟩, 9, false⟩) = false := by
  have h : cov nA ⟨#[98]⟩ = false := by unfold nA; rw [cov_dec]; decide
  unfold fL hitB
  simp only [List.any_cons, List.any_nil, h, Bool.false_and, Bool.false_or, Bool.or_false, Bool.and_eq_false_iff]
  right
  decide
theorem right_A : Pa.rightK nA = true := by
  have h1 : Pa.spB nA = [nA] := by unfold Pa.spB nA; rw [Lib.toList_data]; rfl
  have h2 : Pa.nameK nA = true := by unfold Pa.nameK nA; rw [Lib.toList_data]; decide
  unfold Pa.rightK
  rw [h1, List.all_cons, h2]; rfl
theorem check_lit : checkF fL = 0 := by
  have h1 : nA.toList.isEmpty = false := by unfold nA; rw [Lib.toList_data]; rfl
  have h2 : nE.toList.isEmpty = true := by unfold nE; rw [Lib.toList_data]; rfl
  have m1 : mayK ⟨nA, 0, 9⟩ = 0 := by rw [mayK_zero]; unfold rightC; simp [h1, right_A]
  have m2 : mayK ⟨nE, 0, 5⟩ = 0 := by rw [mayK_zero]; unfold rightC; simp [h2]
  unfold checkF fL
  rw [if_neg (by decide)]
  simp [firstK, m1, m2]
theorem run_eqs_clause (p : ByteArray) (a b : Int) (w : World) : (Op.equalIn 10000 34 (.agg #[.string p, .int .i64 a, .int .i64 b]) (.agg #[.string p, .int .i64 a, .int .i64 b])).run Tryz.prog w = .ok true w := by
  simp [go_sem]
attribute [go_sem 2000] run_eqs_clause
set_option maxRecDepth 100000 in
set_option maxHeartbeats 4000000 in
theorem awake09_c (w : World) (m : Int) (hm : w.cell? ⟨0, 0, none⟩ = some (.int .i64 m)) : Calls Tryz.prog 6 #[] w (Ret (.bool true) w) := by
  have HS0 := lit_row (w := w) (n := 2) clause_coded 34 fL #[.string ⟨#[97]⟩, .int .i64 0, .int .i64 9, .string ⟨#[]⟩, .int .i64 0, .int .i64 5] rfl rfl (by unfold maxLen; omega)
  have HN := fun W (v : Value) (hv : Sl W 3 v (fL.map ClauseI.cells)) => (by
    have := fnorm_c W v fL hv (by simp [fL]) fL_light
    rw [norm_lit] at this
    exact hid this : Hid (Calls Tryz.prog 8 #[v] W (RetQ (RowAt ClauseI.cells 3 fN) W)))
  have HM1 := fun W (v : Value) (hv : Sl W 3 v (fL.map ClauseI.cells)) => (by
    have := fmatch_c W v fL ⟨⟨#[97, 47, 98]⟩, 9, false⟩ hv (by decide) fL_light
    rw [match_lit1] at this
    exact hid this : Hid (Calls Tryz.prog 11 #[v, .agg #[.string ⟨#[97, 47, 98]⟩, .int .i64 9, .bool false]] W (Ret (.bool true) W)))
  have HM2 := fun W (v : Value) (hv : Sl W 3 v (fL.map ClauseI.cells)) => (by
    have := fmatch_c W v fL ⟨⟨#[98]⟩, 9, false⟩ hv (by decide) fL_light
    rw [match_lit2] at this
    exact hid this : Hid (Calls Tryz.prog 11 #[v, .agg #[.string ⟨#[98]⟩, .int .i64 9, .bool false]] W (Ret (.bool false) W)))
  have HC := fun W (hW : Ext w W) (v : Value) (hv : Sl W 3 v (fL.map ClauseI.cells)) => (by
    have := fcheck_c W v fL m (hW.cell hm) hv fL_light
    rw [check_lit] at this
    exact hid this : Hid (Calls Tryz.prog 17 #[v] W (Ret (.int .i64 0) W)))
  have HS := hid HS0
  clear HS0 hm
  go_enter Tryz.func6, Tryz.ntmps6
  go_wp2_with fail
  refine ((HN _ _ HS.out).out).mono ?_
  rintro e w2 ⟨v2, rfl, hv2, hx2⟩
  have HE2 := hid ((Ext.alloc _ _).trans hx2)
  have HS2 := hid (HS.out.ext hx2)
  obtain ⟨A, c, rfl, g1', g2', g3⟩ := sl_get hv2.1
  obtain ⟨b, o, rfl, lb, hcell⟩ := g3 (by simp [fN])
  have d0 := hcell 0 (by simp [fN]) 0 (.string ⟨#[]⟩) rfl
  have d1 := hcell 0 (by simp [fN]) 1 (.int .i64 0) rfl
  have d2 := hcell 0 (by simp [fN]) 2 (.int .i64 5) rfl
  have d3 := hcell 1 (by simp [fN]) 0 (.string ⟨#[97]⟩) rfl
  have d4 := hcell 1 (by simp [fN]) 1 (.int .i64 6) rfl
  have d5 := hcell 1 (by simp [fN]) 2 (.int .i64 9) rfl
  have hlen : fN.length = 2 := rfl
  rw [hlen] at g1' ⊢
  unfold maxLen at g2'
  simp only [Nat.zero_mul, Nat.one_mul, Nat.add_zero] at d0 d1 d2 d3 d4 d5
  clear hv2 hx2 hcell g3 HS hlen HN
  go_wp2_with (first
    | (go_at_call 17; have hx0 := X4.out; clear hx0; refine ((HC _ (HE2.out.trans X4.out) _ (HS2.out.ext X4.out)).out).mono ?_; rintro e w5 ⟨rfl, hx⟩; have X5 := hid (X4.out.trans hx); clear hx)
    | (go_at_call 11; have hx0 := X3.out; clear hx0; refine ((HM2 _ _ (HS2.out.ext X3.out)).out).mono ?_; rintro e w4 ⟨rfl, hx⟩; have X4 := hid (X3.out.trans hx); clear hx X3)
    | (go_at_call 11; refine ((HM1 _ _ HS2.out).out).mono ?_; rintro e w3 ⟨rfl, hx⟩; have X3 := hid hx; clear hx))
  go_ret
  exact ⟨rfl, HE2.out.trans X5.out⟩
end Go.Proofs.YtgkdiknmjgpgmaaGreatDoor
