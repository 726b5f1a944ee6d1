/-
  GetUpdate and GetMeta: there and back; what any bytes are.
-/
import Derived.Test.YtanflgipdiogaaaDoorLbWk
import Derived.Test.YtanflgipdiogaaaDoorLbXk
namespace Go.Proofs.YtanflgipdiogaaaDoor
set_option linter.unusedSimpArgs false
set_option linter.unusedVariables false
open Go.RowKit

theorem okZ_zero (b : Bool) : okZ b = 0 ↔ b = true := by cases b <;> simp [okZ]
theorem rightU_upd0 : rightU upd0 = false := by unfold rightU rightV upd0; rfl
/-- An update that may be comes back. -/
theorem getU_back (w : World) (u : UpdI) (m : Int) (hm : w.cell? ⟨0, 0, none⟩ = some (.int .i64 m)) (hi : u.in64) (hr : rightU u = true) : Calls Tryd.prog 32 #[.string (updB u)] w (Ret (.tuple #[u.val, .int .i64 0]) w) := by
  have hf := rightful hr
  refine (getU_x w (updB u) m hm (by have := updB_size hi hf; omega)).mono ?_
  rintro en w' ⟨x, _, _, _, hb, rfl, hx⟩
  obtain rfl := hb u hi hf rfl
  have hc : okZ (rightU x) = 0 ∧ putB (rightU x) (updB x) = updB x := by rw [hr]; exact ⟨rfl, rfl⟩
  rw [if_pos hc, if_pos hc]
  exact ⟨rfl, hx⟩
/-- Any bytes: an update that may be and has these bytes, or nothing. -/
theorem getU_any (w : World) (s : ByteArray) (m : Int) (hm : w.cell? ⟨0, 0, none⟩ = some (.int .i64 m)) (hs : s.size ≤ 90000) : ∃ P : UpdI → Int → Prop, (∀ x z, P x z → (z = 0 ∧ x.in64 ∧ rightU x = true ∧ updB x = s ∧ x.p.size ≤ 90000 ∧ x.d.size ≤ 90000) ∨ (z = 6 ∧ x = upd0)) ∧ Calls Tryd.prog 32 #[.string s] w (fun en w' => ∃ x z, P x z ∧ en = .returned (.tuple #[x.val, .int .i64 z]) ∧ Ext w w') := by
  refine ⟨fun x z => (z = 0 ∧ x.in64 ∧ rightU x = true ∧ updB x = s ∧ x.p.size ≤ 90000 ∧ x.d.size ≤ 90000) ∨ (z = 6 ∧ x = upd0), fun _ _ h => h, ?_⟩
  refine (getU_x w s m hm hs).mono ?_
  rintro en w' ⟨x, hi, hp, hd, hb, rfl, hx⟩
  by_cases hc : okZ (rightU x) = 0 ∧ putB (rightU x) (updB x) = s
  · rw [if_pos hc, if_pos hc]
    have hr := (okZ_zero _).1 hc.1
    have he := hc.2
    rw [hr] at he
    exact ⟨x, 0, .inl ⟨rfl, hi, hr, he, by omega, by omega⟩, rfl, hx⟩
  · rw [if_neg hc, if_neg hc]
    exact ⟨upd0, 6, .inr ⟨rfl, rfl⟩, rfl, hx⟩
theorem rightM_iff (u : MetaI) : rightM u = true ↔ u.chk = 0 := by unfold rightM; exact decide_eq_true_iff
theorem getM_back (w : World) (u : MetaI) (m : Int) (hm : w.cell? ⟨0, 0, none⟩ = some (.int .i64 m)) (hi : u.in64) (hr : rightM u = true) : Calls Tryd.prog 33 #[.string (metB u)] w (Ret (.tuple #[u.val, .int .i64 0]) w) := by
  have hf := rightfulM ((rightM_iff u).1 hr)
  refine (getM_x w (metB u) m hm (by have := metB_size hi hf; omega)).mono ?_
  rintro en w' ⟨x, _, _, _, hb, rfl, hx⟩
  obtain rfl := hb u hi hf rfl
  have hc : okZ (rightM x) = 0 ∧ putB (rightM x) (metB x) = metB x := by rw [hr]; exact ⟨rfl, rfl⟩
  rw [if_pos hc, if_pos hc]
  exact ⟨rfl, hx⟩
theorem getM_any (w : World) (s : ByteArray) (m : Int) (hm : w.cell? ⟨0, 0, none⟩ = some (.int .i64 m)) (hs : s.size ≤ 90000) : ∃ P : MetaI → Int → Prop, (∀ x z, P x z → (z = 0 ∧ x.in64 ∧ in64 x.size ∧ rightM x = true ∧ metB x = s ∧ x.p.size ≤ 90000) ∨ (z = 6 ∧ x = met0)) ∧ Calls Tryd.prog 33 #[.string s] w (fun en w' => ∃ x z, P x z ∧ en = .returned (.tuple #[x.val, .int .i64 z]) ∧ Ext w w') := by
  refine ⟨fun x z => (z = 0 ∧ x.in64 ∧ in64 x.size ∧ rightM x = true ∧ metB x = s ∧ x.p.size ≤ 90000) ∨ (z = 6 ∧ x = met0), fun _ _ h => h, ?_⟩
  refine (getM_x w s m hm hs).mono ?_
  rintro en w' ⟨x, hi, hp, hd, hb, rfl, hx⟩
  by_cases hc : okZ (rightM x) = 0 ∧ putB (rightM x) (metB x) = s
  · rw [if_pos hc, if_pos hc]
    have hr := (okZ_zero _).1 hc.1
    have he := hc.2
    rw [hr] at he
    exact ⟨x, 0, .inl ⟨rfl, hi, hd, hr, he, by omega⟩, rfl, hx⟩
  · rw [if_neg hc, if_neg hc]
    exact ⟨met0, 6, .inr ⟨rfl, rfl⟩, rfl, hx⟩
end Go.Proofs.YtanflgipdiogaaaDoor
