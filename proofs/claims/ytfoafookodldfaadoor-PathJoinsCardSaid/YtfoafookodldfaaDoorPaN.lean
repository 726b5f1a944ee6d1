/-
  lighteragelaw07.PathChecks and PathJoins: their walks.
-/
import Derived.Test.YtfoafookodldfaaDoorPaM
import Derived.Test.YtfoafookodldfaaDoorPaD
namespace Go.Proofs.YtfoafookodldfaaDoor
set_option linter.unusedSimpArgs false
set_option linter.unusedVariables false
open Go.RowKit

theorem ok_split {s : ByteArray} (h : rightK s = true) : joinText (spB s) = s ∧ joinNo (spB s) = 0 := by
  have h1 : okJ (spB s) = true := by
    unfold okJ
    rw [joinS_spB, h]
    unfold rightK at h
    simp only [Bool.and_eq_true] at h
    rw [h.2, h.1.1]
    rfl
  unfold joinText joinNo
  rw [h1, if_pos rfl, if_pos rfl, joinS_spB]
  exact ⟨rfl, rfl⟩
set_option maxRecDepth 100000 in
set_option maxHeartbeats 4000000 in
theorem checks_walk (w : World) (m : Int) (hm : w.cell? ⟨0, 0, none⟩ = some (.int .i64 m)) (s : ByteArray) (hs : s.size ≤ maxLen) : Calls Tryd.prog 5 #[.string s] w (Ret (.bool true) w) := by
  have HA : Hid (∀ W, Ext w W → Calls Tryd.prog 7 #[] W (Ret (.bool true) W)) := fun W he => awake_c W m (he.cell hm)
  by_cases p1 : 1000 < s.size
  · have d1 : decide ((1000 : Int) < (s.size : Int)) = true := by simp; omega
    clear p1 hm hs
    go_enter Tryd.func5, Tryd.ntmps5
    go_wp2_with (go_at_call 7; refine (HA.out _ (Ext.refl _)).mono ?_; rintro e v2 ⟨rfl, z2⟩)
    go_ret
    exact ⟨rfl, z2⟩
  · have d1 : decide ((1000 : Int) < (s.size : Int)) = false := by simp; omega
    have h1000 : s.size ≤ 1000 := by omega
    have HC : Hid (∀ W, Ext w W → Calls Tryd.prog 12 #[.string s] W (Ret (.int .i64 (pathNo s)) W)) := fun W he => check_c W s m (he.cell hm) h1000
    have HN : Hid (∀ W, Ext w W → Calls Tryd.prog 13 #[.string s] W (fun e w' => ∃ v, e = .returned (.tuple #[v, .int .i64 (pathNo s)]) ∧ Sl w' 1 v (Strs (pathNames s)) ∧ Ext W w')) := fun W he => names_c W s m (he.cell hm) h1000
    have HR : Hid (∀ W, Calls Tryd.prog 14 #[.string s] W (Ret (.bool (rightK s)) W)) := fun W => right_c s W (by omega)
    have HJ : Hid (∀ W v, Ext w W → Sl W 1 v (Strs (spB s)) → Calls Tryd.prog 15 #[v] W (Ret (.tuple #[.string (joinText (spB s)), .int .i64 (joinNo (spB s))]) W)) := fun W v he hv => join_c W v _ m (he.cell hm) hv fun x hx => by have := spB_parts s x hx; omega
    have HS : Hid (∀ W, Calls Tryd.prog 17 #[.string s, .int .u8 47] W (RetQ (fun v w' => Sl w' 1 v (Strs (spB s))) W)) := fun W => rsplit_c s W (by omega)
    have HT : Hid (∀ W u v, Sl W 1 u (Strs (spB s)) → Sl W 1 v (Strs (spB s)) → Calls Tryd.prog 16 #[u, v] W (Ret (.bool true) W)) := fun W u v h1 h2 => by
      have := texts_c W u v _ _ h1 h2
      simpa using this
    have HK : Hid (rightK s = true → joinText (spB s) = s ∧ joinNo (spB s) = 0) := ok_split
    unfold pathNo at HC
    unfold pathNo pathNames at HN
    have heq : (s.toList == s.toList) = true := by simp
    clear p1 hm hs h1000
    generalize spB s = l at *
    cases hr : rightK s with
    | false =>
      rw [hr] at HC HN HR
      simp only [Bool.false_eq_true, if_false] at HC HN
      clear HK hr
      go_enter Tryd.func5, Tryd.ntmps5
      go_wp2_with (first
        | (go_at_call 12; refine (HC.out _ (Ext.refl _)).mono ?_; rintro e w1 ⟨rfl, hx⟩; have HX := hid hx; clear hx)
        | (go_at_call 13; refine (HN.out _ HX.out).mono ?_; rintro e w2 ⟨v2, rfl, hv, hx⟩; have HX := hid (HX.out.trans hx); obtain ⟨A, c, rfl, _, _, _⟩ := sl_str hv; clear hx hv)
        | (go_at_call 14; refine (HR.out _).mono ?_; rintro e w3 ⟨rfl, hx⟩; have HX := hid (HX.out.trans hx); clear hx)
        | (go_at_call 7; refine (HA.out _ HX.out).mono ?_; rintro e w4 ⟨rfl, hx⟩; have HX := hid (HX.out.trans hx); clear hx))
      go_ret
      exact ⟨rfl, HX.out⟩
    | true =>
      rw [hr] at HC HN HR
      simp only [if_true] at HC HN
      obtain ⟨k1, k2⟩ := HK.out hr
      rw [k1, k2] at HJ
      clear HK hr k1 k2
      go_enter Tryd.func5, Tryd.ntmps5
      go_wp2_with (first
        | (go_at_call 12; refine (HC.out _ (Ext.refl _)).mono ?_; rintro e w1 ⟨rfl, hx⟩; have HX := hid hx; clear hx)
        | (go_at_call 13; refine (HN.out _ HX.out).mono ?_; rintro e w2 ⟨v2, rfl, hv, hx⟩; have HX := hid (HX.out.trans hx); have HV := hid hv; clear hx hv)
        | (go_at_call 14; refine (HR.out _).mono ?_; rintro e w3 ⟨rfl, hx⟩; have HX := hid (HX.out.trans hx); have HV := hid (HV.out.ext hx); clear hx)
        | (go_at_call 15; refine (HJ.out _ _ HX.out HV.out).mono ?_; rintro e w4 ⟨rfl, hx⟩; have HX := hid (HX.out.trans hx); have HV := hid (HV.out.ext hx); clear hx)
        | (go_at_call 7; refine (HA.out _ HX.out).mono ?_; rintro e w5 ⟨rfl, hx⟩; have HX := hid (HX.out.trans hx); have HV := hid (HV.out.ext hx); clear hx)
        | (go_at_call 17; refine (HS.out _).mono ?_; rintro e w6 ⟨v6, rfl, hv, hx⟩; have HX := hid (HX.out.trans hx); have HV := hid (HV.out.ext hx); have HV6 := hid hv; clear hx hv)
        | (go_at_call 16; refine (HT.out _ _ _ HV.out HV6.out).mono ?_; rintro e w7 ⟨rfl, hx⟩; have HX := hid (HX.out.trans hx); clear hx))
      go_ret
      exact ⟨rfl, HX.out⟩
end Go.Proofs.YtfoafookodldfaaDoor
