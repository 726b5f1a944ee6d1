/-
  Package path: awake (chapter 07).
-/
import Derived.Test.YtfoafookodldfaaDoorPaC
namespace Go.Proofs.YtfoafookodldfaaDoor
set_option linter.unusedSimpArgs false
set_option linter.unusedVariables false
open Go.RowKit

abbrev tA : ByteArray := ⟨#[97]⟩
abbrev tAB : ByteArray := ⟨#[97, 47, 98]⟩
abbrev tab : ByteArray := ⟨#[97, 98]⟩
abbrev tBC : ByteArray := ⟨#[98, 46, 99]⟩
abbrev tABC : ByteArray := ⟨#[97, 47, 98, 46, 99]⟩
abbrev tDD : ByteArray := ⟨#[46, 46]⟩
theorem size_lit (a : Array UInt8) : (⟨a⟩ : ByteArray).size = a.size := rfl
theorem cov_lit (p s : Array UInt8) : cov ⟨p⟩ ⟨s⟩ = (p.toList.isEmpty || (s.toList == p.toList) || (decide ((p ++ #[47]).size ≤ s.size) && ((s.toList.take (p ++ #[47]).size) == (p ++ #[47]).toList))) := by
  have e : ((⟨p⟩ : ByteArray) ++ ⟨#[47]⟩) = ⟨p ++ #[47]⟩ := ByteArray.ext ByteArray.data_append
  unfold cov hpre
  rw [e, extract_toList]
  simp only [Lib.toList_data, size_lit]
theorem cov1 : cov tAB tA = false := by simp [cov_lit]
theorem cov2 : cov tA tAB = true := by simp [cov_lit]
theorem cov3 : cov tA tab = false := by simp [cov_lit]
theorem count1 : Lib.countB tABC ⟨#[47]⟩ = 1 := by kernel_rfl
theorem split1 : Lib.splitB ⟨#[47]⟩ 0 (Lib.countB tABC ⟨#[47]⟩) tABC = [tA, tBC] := by kernel_rfl
theorem count2 : Lib.countB tDD ⟨#[47]⟩ = 0 := by kernel_rfl
theorem split2 : Lib.splitB ⟨#[47]⟩ 0 (Lib.countB tDD ⟨#[47]⟩) tDD = [tDD] := by kernel_rfl
theorem name1 : ([tA, tBC].all nameK && decide ([tA, tBC].length ≤ 6)) = true := by simp [nameK, lb, letterK, Lib.toList_data, size_lit]
theorem name2 : ([tDD].all nameK && decide ([tDD].length ≤ 6)) = false := by simp [nameK, lb, letterK, Lib.toList_data, size_lit]
theorem ascii_lit (a : Array UInt8) (h : ∀ i (h : i < a.size), a[i].toNat < 128) : Ascii ⟨a⟩ := h
theorem asc1 : ∀ x ∈ [tA, tBC], Ascii x ∧ x.size ≤ 100000 := by
  intro x hx
  simp only [List.mem_cons, List.not_mem_nil, or_false] at hx
  rcases hx with rfl | rfl
  · exact ⟨ascii_lit _ (by decide), by simp [size_lit]⟩
  · exact ⟨ascii_lit _ (by decide), by simp [size_lit]⟩
theorem asc2 : ∀ x ∈ [tDD], Ascii x ∧ x.size ≤ 100000 := by
  intro x hx
  simp only [List.mem_cons, List.not_mem_nil, or_false] at hx
  subst hx
  exact ⟨ascii_lit _ (by decide), by simp [size_lit]⟩

set_option maxRecDepth 100000 in
set_option maxHeartbeats 1000000 in
theorem check2_c (w : World) (m : Int) (hm : w.cell? ⟨0, 0, none⟩ = some (.int .i64 m)) : Calls Tryd.prog 12 #[.string tDD] w (Ret (.int .i64 13) w) := by
  have HN := hid (names_bad w tDD m [tDD] hm (by simp [size_lit]) split2 (by rw [count2]; rfl) (by simp) asc2 name2)
  clear hm
  go_enter Tryd.func12, Tryd.ntmps12
  go_wp2_with (go_at_call 13; refine (HN.out).mono ?_; rintro e w' ⟨rfl, hx⟩; have HX := hid hx; clear hx)
  go_ret
  exact ⟨rfl, HX.out⟩
set_option maxRecDepth 100000 in
set_option maxHeartbeats 2000000 in
theorem awake_c (w : World) (m : Int) (hm : w.cell? ⟨0, 0, none⟩ = some (.int .i64 m)) : Calls Tryd.prog 7 #[] w (Ret (.bool true) w) := by
  have HM : Hid (∀ W, Calls Tryd.prog 9 #[.string tAB, .string tA] W (Ret (.tuple #[.string tAB, .bool true]) W)) := fun W => by
    have := meet_c tAB tA W (by simp [size_lit]) (by simp [size_lit])
    rw [cov1, cov2] at this
    exact this
  have HN : Hid (∀ W, Ext w W → Calls Tryd.prog 13 #[.string tABC] W (fun e w' => ∃ v, e = .returned (.tuple #[v, .int .i64 0]) ∧ Sl w' 1 v (Strs [tA, tBC]) ∧ Ext W w')) := fun W he =>
    names_ok W tABC m [tA, tBC] (he.cell hm) (by simp [size_lit]) split1 (by rw [count1]; rfl) (by simp) asc1 name1
  have HC1 : Hid (∀ W, Calls Tryd.prog 8 #[.string tA, .string tAB] W (fun e w' => e = .returned (.bool true) ∧ W = w')) := fun W => by
    have := pcovers_c tA tAB W (by simp [size_lit, maxLen]) (by simp [size_lit, maxLen])
    rw [cov2] at this
    exact this
  have HC2 : Hid (∀ W, Calls Tryd.prog 8 #[.string tA, .string tab] W (fun e w' => e = .returned (.bool false) ∧ W = w')) := fun W => by
    have := pcovers_c tA tab W (by simp [size_lit, maxLen]) (by simp [size_lit, maxLen])
    rw [cov3] at this
    exact this
  have HT : Hid (∀ W u v, Sl W 1 u (Strs [tA, tBC]) → Sl W 1 v (Strs [tA, tBC]) → Calls Tryd.prog 16 #[u, v] W (Ret (.bool true) W)) := fun W u v h1 h2 => by
    have := texts_c W u v _ _ h1 h2
    simpa using this
  have HK : Hid (∀ W, Ext w W → Calls Tryd.prog 12 #[.string tDD] W (Ret (.int .i64 13) W)) := fun W he => check2_c W m (he.cell hm)
  have HS : Hid (∀ W : World, Sl (W.alloc (.cells #[.string tA, .string tBC] 9)) 1 (.slice (some ⟨W.heap.size, 0, none⟩) 2 2) (Strs [tA, tBC])) := fun W =>
    Sl.of_flat (Blk.new W 9 _) ⟨[], rfl⟩ (by simp [Strs]) rfl (Nat.le_refl _) (by unfold maxLen; omega)
  clear hm
  go_enter Tryd.func7, Tryd.ntmps7
  go_wp2_with (first
    | (go_at_call 9; refine (HM.out _).mono ?_; rintro e w1 ⟨rfl, hx⟩; have HX := hid hx; clear hx)
    | (go_at_call 13; refine (HN.out _ HX.out).mono ?_; rintro e w2 ⟨v2, rfl, hv, hx⟩; have HX := hid (HX.out.trans hx); have HV := hid hv; clear hx hv)
    | (go_at_call 8; refine (HC2x.out _).mono ?_; rintro e w' ⟨rfl, rfl⟩)
    | (go_at_call 8; refine (HC1.out _).mono ?_; rintro e w' ⟨rfl, rfl⟩; have HC2x := HC2)
    | (go_at_call 16; refine (HT.out _ _ _ (HV.out.ext (Ext.alloc _ _)) (HS.out _)).mono ?_; rintro e w3 ⟨rfl, hx⟩; have HX := hid ((HX.out.alloc' _).trans hx); clear hx)
    | (go_at_call 12; refine (HK.out _ HX.out).mono ?_; rintro e w4 ⟨rfl, hx⟩; have HX := hid (HX.out.trans hx); clear hx))
  go_ret
  exact ⟨rfl, HX.out⟩
end Go.Proofs.YtfoafookodldfaaDoor
