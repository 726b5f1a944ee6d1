/-
  Package index: awake.
-/
import Derived.Test.YtfoafookodldfaaIdxH
namespace Go.Proofs.Ytfoafookodldfaa
set_option linter.unusedSimpArgs false
set_option linter.unusedVariables false
open Go.RowKit

abbrev nb : ByteArray := ⟨#[98]⟩
abbrev nax : ByteArray := ⟨#[97, 47, 120]⟩
abbrev na : ByteArray := ⟨#[97]⟩
theorem blt_lit (a b : Array UInt8) : blt ⟨a⟩ ⟨b⟩ = Op.bytesLess a.toList b.toList := by unfold blt; rw [Lib.toList_data, Lib.toList_data]
theorem awake_list : newUpTo [nb, nax, na] 3 = [⟨na, 2⟩, ⟨nax, 1⟩, ⟨nb, 0⟩] := by
  simp [newUpTo, putK, hasK, rk, blt_lit, Op.bytesLess]
theorem awake_under : underK na [⟨na, 2⟩, ⟨nax, 1⟩, ⟨nb, 0⟩] = [na, nax] := by
  simp [underK, restK, rk, blt_lit, Op.bytesLess, hpre, cov, Lib.toList_data]
  rfl

set_option maxRecDepth 100000 in
set_option maxHeartbeats 4000000 in
theorem awake_c (w : World) : Calls Try.prog 12 #[] w (Ret (.bool true) w) := by
  have hsl : ∀ W : World, Sl (W.alloc (.cells #[.string nb, .string nax, .string na] 9)) 1 (.slice (some ⟨W.heap.size, 0, none⟩) 3 3) (Strs [nb, nax, na]) := fun W =>
    Sl.of_flat (Blk.new W 9 _) ⟨[], rfl⟩ (by simp [Strs]) rfl (Nat.le_refl _) (by unfold maxLen; omega)
  have hsl2 : ∀ W : World, Sl (W.alloc (.cells #[.string na, .string nax] 9)) 1 (.slice (some ⟨W.heap.size, 0, none⟩) 2 2) (Strs [na, nax]) := fun W =>
    Sl.of_flat (Blk.new W 9 _) ⟨[], rfl⟩ (by simp [Strs]) rfl (Nat.le_refl _) (by unfold maxLen; omega)
  have HS := hid hsl
  have HS2 := hid hsl2
  clear hsl hsl2
  have HSrt : Hid (Srt [⟨na, 2⟩, ⟨nax, 1⟩, ⟨nb, 0⟩]) := by unfold Hid; rw [← awake_list]; exact newUpTo_srt _ _
  have hr : Hid (rk nb [⟨na, 2⟩, ⟨nax, 1⟩, ⟨nb, 0⟩] = 2) := by unfold Hid; simp [rk, blt_lit, Op.bytesLess]
  have hr2 : Hid (rk nax [⟨na, 2⟩, ⟨nax, 1⟩, ⟨nb, 0⟩] = 1) := by unfold Hid; simp [rk, blt_lit, Op.bytesLess]
  have HG : Hid (∀ W g R, IdxAt W g R [⟨na, 2⟩, ⟨nax, 1⟩, ⟨nb, 0⟩] → Calls Try.prog 20 #[.pointer (some ⟨g, 0, none⟩), .string nax] W (Ret (.tuple #[.int .i64 1, .bool true]) W)) := fun W g R h => by
    have := get_c W g R _ nax h (by simp) HSrt.out
    rw [hr2.out] at this
    simpa using this
  have HK : Hid (∀ W g R, IdxAt W g R [⟨na, 2⟩, ⟨nax, 1⟩, ⟨nb, 0⟩] → Calls Try.prog 21 #[.pointer (some ⟨g, 0, none⟩), .string nb] W (Ret (.int .i64 2) W)) := fun W g R h => by
    have := rank_c W g R _ nb h (by simp) HSrt.out
    rw [hr.out] at this
    exact this
  have HL : Hid (∀ W g R, IdxAt W g R [⟨na, 2⟩, ⟨nax, 1⟩, ⟨nb, 0⟩] → Calls Try.prog 14 #[.pointer (some ⟨g, 0, none⟩)] W (Ret (.int .i64 3) W)) := fun W g R h => by
    obtain ⟨A, c, hg, _⟩ := h.open_
    exact lenR W g _ _ _ hg
  have HU : Hid (∀ W g R, IdxAt W g R [⟨na, 2⟩, ⟨nax, 1⟩, ⟨nb, 0⟩] → Calls Try.prog 25 #[.pointer (some ⟨g, 0, none⟩), .string na] W (RetQ (fun v w' => Sl w' 1 v (Strs [na, nax])) W)) := fun W g R h => by
    have := under_c W g R _ na h (by simp) HSrt.out (by simp [ByteArray.size, maxLen]) (by intro x hx; simp at hx; rcases hx with rfl | rfl | rfl <;> simp [ByteArray.size, maxLen])
    rw [awake_under] at this
    exact this
  have HT : Hid (∀ W u v, Sl W 1 u (Strs [na, nax]) → Sl W 1 v (Strs [na, nax]) → Calls Try.prog 24 #[u, v] W (Ret (.bool true) W)) := fun W u v h1 h2 => by
    have := texts_c W u v _ _ h1 h2
    simpa using this
  clear hr hr2 HSrt
  go_enter Try.func12, Try.ntmps12
  go_wp2_with (first
    | (go_at_call 11; refine (new_c [nb, nax, na] _ _ (by simp) (HS.out _)).mono ?_; rintro e w1 ⟨v, rfl, hv, hx⟩; obtain ⟨g, R, rfl, hg, hR, hI⟩ := hv; have hI' : IdxAt w1 g R [⟨na, 2⟩, ⟨nax, 1⟩, ⟨nb, 0⟩] := (by rw [← awake_list]; exact hI); clear hI; have HI := hid hI'; have HX := hid hx; clear hI' hx hg hR)
    | (go_at_call 20; refine (HG.out _ _ _ HI.out).mono ?_; rintro e w2 ⟨rfl, hx2⟩; have HI2 := hid (HI.out.ext hx2); have HX2 := hid hx2; clear hx2)
    | (go_at_call 25; refine (HU.out _ _ _ HI2.out).mono ?_; rintro e w3 ⟨v3, rfl, hv3, hx3⟩; have HV3 := hid hv3; have HX3 := hid hx3; clear hv3 hx3)
    | (go_at_call 24; refine (HT.out _ _ _ (HV3.out.ext (Ext.alloc _ _)) (HS2.out _)).mono ?_; rintro e w4 ⟨rfl, hx4⟩; have HI4 := hid (((HI2.out.ext HX3.out).ext (Ext.alloc _ _)).ext hx4); have HX4 := hid hx4; clear hx4)
    | (go_at_call 21; refine (HK.out _ _ _ HI4.out).mono ?_; rintro e w5 ⟨rfl, hx5⟩; have HI5 := hid (HI4.out.ext hx5); have HX5 := hid hx5; clear hx5)
    | (go_at_call 14; refine (HL.out _ _ _ HI5.out).mono ?_; rintro e w6 ⟨rfl, hx6⟩; have HX6 := hid hx6; clear hx6))
  go_ret
  exact ⟨rfl, (((((((Ext.refl _).alloc' _).trans HX.out).trans HX2.out).trans HX3.out).alloc' _).trans HX4.out).trans (HX5.out.trans HX6.out)⟩
end Go.Proofs.Ytfoafookodldfaa
