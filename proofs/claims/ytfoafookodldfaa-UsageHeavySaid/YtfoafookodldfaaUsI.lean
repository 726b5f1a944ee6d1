/-
  Package usage: awake (chapter 43).
-/
import Derived.Test.YtfoafookodldfaaUsH
namespace Go.Proofs.Ytfoafookodldfaa
set_option linter.unusedSimpArgs false
set_option linter.unusedVariables false
open Go.RowKit

def awL : List LeafI := [⟨⟨#[]⟩, nax, 0, 0, ⟨#[49, 50, 51]⟩⟩, ⟨⟨#[]⟩, nb, 0, 0, ⟨#[49]⟩⟩]
def awQ : List PairI := [⟨⟨#[]⟩, 0⟩, ⟨na, 0⟩, ⟨nax, 0⟩, ⟨nb, 0⟩]
def awU : List UseI := [⟨⟨#[]⟩, 2, 4⟩, ⟨na, 1, 3⟩, ⟨nax, 1, 3⟩, ⟨nb, 1, 1⟩]
theorem nax_slash : slashTo nax nax.size = [na] := by
  have e : nax.size = 3 := rfl
  have e1 : nax.extract 0 1 = na := rfl
  rw [e]
  simp [slashTo, slashAt, Lib.toList_data, e1]
theorem nb_slash : slashTo nb nb.size = [] := by
  have e : nb.size = 1 := rfl
  rw [e]
  simp [slashTo, slashAt, Lib.toList_data]
theorem awL_pre : preK awL = awQ := by
  rw [← pre_eq]
  simp only [rpreK, awL, List.foldl_cons, List.foldl_nil, nax_slash, nb_slash]
  simp [putZ, putK, hasK, rk, blt_lit, Op.bytesLess, base0, awQ]
theorem size_lit (a : Array UInt8) : (⟨a⟩ : ByteArray).size = a.size := rfl
theorem cov_lit (p s : Array UInt8) : cov ⟨p⟩ ⟨s⟩ = (p.toList.isEmpty || (s.toList == p.toList) || (decide ((p ++ #[47]).size ≤ s.size) && ((s.toList.take (p ++ #[47]).size) == (p ++ #[47]).toList))) := by
  have e : ((⟨p⟩ : ByteArray) ++ ⟨#[47]⟩) = ⟨p ++ #[47]⟩ := ByteArray.ext ByteArray.data_append
  unfold cov hpre
  rw [e, extract_toList]
  simp only [Lib.toList_data, size_lit]
theorem awL_all : allK awL awQ = awU := by
  simp [allK, awQ, awU, awL, ofK, filesK, bytesK, cov_lit, size_lit]
theorem awL_of : bytesK awL na = 3 ∧ filesK awL na = 1 := by
  simp [awL, filesK, bytesK, cov_lit, size_lit]
theorem awL_few : Few100 awL := ⟨by simp [awL], by intro x hx; simp [awL] at hx; rcases hx with rfl | rfl <;> simp [size_lit]⟩

set_option maxRecDepth 100000 in
set_option maxHeartbeats 4000000 in
theorem awake43_c (w : World) : Calls Try.prog 27 #[] w (Ret (.bool true) w) := by
  have HS : Hid (∀ W : World, Sl (W.alloc (.cells #[.string ⟨#[]⟩, .string nax, .int .i64 0, .int .i64 0, .string ⟨#[49, 50, 51]⟩, .string ⟨#[]⟩, .string nb, .int .i64 0, .int .i64 0, .string ⟨#[49]⟩] 66)) 5 (.slice (some ⟨W.heap.size, 0, none⟩) 2 2) (Leaves awL)) := fun W =>
    Sl.of_flat (Blk.new W 66 _) ⟨[], rfl⟩ (leaves_sz _) rfl (Nat.le_refl _) (by unfold maxLen; omega)
  have HU : Hid (∀ W : World, Sl (W.alloc (.cells #[.string ⟨#[]⟩, .int .i64 2, .int .i64 4, .string na, .int .i64 1, .int .i64 3, .string nax, .int .i64 1, .int .i64 3, .string nb, .int .i64 1, .int .i64 1] 55)) 3 (.slice (some ⟨W.heap.size, 0, none⟩) 4 4) (Uses awU)) := fun W =>
    Sl.of_flat (Blk.new W 55 _) ⟨[], rfl⟩ (uses_sz _) rfl (Nat.le_refl _) (by unfold maxLen; omega)
  have HA : Hid (∀ W v, Sl W 5 v (Leaves awL) → Calls Try.prog 32 #[v] W (RetQ (fun v' w' => Sl w' 3 v' (Uses awU)) W)) := fun W v h => by
    have := uall_c W v awL h awL_few
    rw [awL_pre, awL_all] at this
    exact this
  have HO : Hid (∀ W v, Sl W 5 v (Leaves awL) → Calls Try.prog 29 #[v, .string na] W (Ret (.agg #[.string na, .int .i64 1, .int .i64 3]) W)) := fun W v h => by
    have := uof_c W v awL na h awL_few.slim (by simp [size_lit])
    rw [awL_of.1, awL_of.2] at this
    exact this
  have hfd : ∀ W : World, (Instr.field 55 (.agg #[.string na, .int .i64 1, .int .i64 3]) 2).run Try.prog W = .ok (.int .i64 3) W := fun _ => by kernel_rfl
  go_enter Try.func27, Try.ntmps27
  go_wp2_with (first
    | (go_at_call 32; refine (HA.out _ _ (HS.out _)).mono ?_; rintro e w1 ⟨v1, rfl, hv, hx⟩; have HV := hid hv; have HX := hid hx; clear hv hx)
    | (go_at_call 31; refine (same_c _ _ _ awU (HV.out.ext (Ext.alloc _ _)) (HU.out _)).mono ?_; rintro e w2 ⟨rfl, hx⟩; have HX2 := hid ((HX.out.alloc' _).trans hx); clear hx)
    | (go_at_call 29; refine (HO.out _ _ ((HS.out _).ext HX2.out)).mono ?_; rintro e w3 ⟨rfl, hx⟩; have HX3 := hid (HX2.out.trans hx); clear hx))
  go_ret
  exact ⟨rfl, (Ext.alloc _ _).trans HX3.out⟩
end Go.Proofs.Ytfoafookodldfaa
