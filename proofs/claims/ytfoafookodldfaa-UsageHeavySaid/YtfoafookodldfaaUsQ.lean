/-
  Package usage: Heavy.
-/
import Derived.Test.YtfoafookodldfaaUsJ
namespace Go.Proofs.Ytfoafookodldfaa
set_option linter.unusedSimpArgs false
set_option linter.unusedVariables false
open Go.RowKit

/-- another prefix under this one -/
def belowK (u v : UseI) : Bool := decide (v.pre ≠ u.pre) && cov u.pre v.pre
def Short (l : List UseI) : Prop := l.length ≤ 200000 ∧ ∀ u ∈ l, u.pre.size ≤ 1000

set_option maxRecDepth 100000 in
set_option maxHeartbeats 1000000 in
theorem heavy1_c (w : World) (u v : UseI) (g : Nat) (hg : Blk w g 55 #[.string u.pre, .int .i64 u.files, .int .i64 u.bytes]) (hu : u.pre.size ≤ 1000) (hv : v.pre.size ≤ 1000) :
    Calls Try.prog 49 #[.agg #[.string v.pre, .int .i64 v.files, .int .i64 v.bytes], .pointer (some ⟨g, 0, none⟩)] w (Ret (.bool (belowK u v)) w) := by
  have HC : Hid (∀ W, Calls Try.prog 45 #[.string u.pre, .string v.pre] W (fun e w' => e = .returned (.bool (cov u.pre v.pre)) ∧ W = w')) := fun W => pcovers_c _ _ W (by unfold maxLen; omega) (by unfold maxLen; omega)
  have g0 := hg.cell (i := 0) (v := .string u.pre) rfl
  have lg := hg.lt
  clear hg
  unfold belowK
  generalize cov u.pre v.pre = c at HC ⊢
  by_cases he : v.pre = u.pre
  · have hb : (v.pre.toList == u.pre.toList) = true := by rw [he]; simp
    rw [show decide (v.pre ≠ u.pre) = false by simp [he], Bool.false_and]
    clear he
    go_enter Try.func49, Try.ntmps49
    go_wp2_with (go_at_call 45; refine (HC.out _).mono ?_; rintro e w' ⟨rfl, rfl⟩)
    go_ret
    exact ⟨rfl, (Ext.refl _).alloc' _⟩
  · have hb : (v.pre.toList == u.pre.toList) = false := by rw [beq_toList]; simp [he]
    rw [show decide (v.pre ≠ u.pre) = true by simp [he], Bool.true_and]
    clear he
    go_enter Try.func49, Try.ntmps49
    go_wp2_with (go_at_call 45; refine (HC.out _).mono ?_; rintro e w' ⟨rfl, rfl⟩)
    go_ret
    exact ⟨rfl, (Ext.refl _).alloc' _⟩

set_option maxRecDepth 100000 in
set_option maxHeartbeats 2000000 in
theorem indexf_c (w : World) (x : Value) (us : List UseI) (f : Nat) (cap : Array Value) (h : Sl w 3 x (Uses us)) (hl : us.length ≤ 200000) (hcf : ∀ (args : Array Value) (W : World), (callFunc f args).run Try.prog W = .ok (.enter f args) W) (p : UseI → Bool)
    (hp : ∀ W v, v ∈ us → Ext w W → Hid (Calls Try.prog f (#[.agg #[.string v.pre, .int .i64 v.files, .int .i64 v.bytes]] ++ cap) W (Ret (.bool (p v)) W))) :
    Calls Try.prog 53 #[x, .func (.func f) #[] cap] w (fun e w' => (∃ z : Int, e = .returned (.int .i64 z) ∧ decide (0 ≤ z) = us.any p) ∧ Ext w w') := by
  obtain ⟨A, c, rfl, h1, h2, h3⟩ := sl_use h
  clear h
  unfold maxLen at h2
  go_enter Try.func53, Try.ntmps53
  go_wp2_with fail
  go_loopw [8] (fun i wr => ∃ k : Nat, k ≤ us.length ∧ i = .int .i64 k ∧ Ext w wr ∧ (us.take k).any p = false) (fun i _ => us.length - (intOf i).toNat)
  case atStart => exact ⟨0, by omega, rfl, Ext.refl _, rfl⟩
  case round =>
    obtain ⟨k, hk, rfl, hE, hno⟩ := hrel
    by_cases hlt : k < us.length
    · obtain ⟨b, o, rfl, lb, hcell⟩ := h3 (by omega)
      obtain ⟨c0, c1, c2⟩ := hcell k hlt
      have e0 := hE.cell c0
      have e1 := hE.cell c1
      have e2 := hE.cell c2
      have lb1 := Nat.lt_of_lt_of_le lb hE.size
      have HP := hp wr us[k] (List.getElem_mem hlt) hE
      have HS : Hid ((us.take (k + 1)).any p = p us[k]) := by unfold Hid; rw [List.take_succ_eq_append_getElem hlt, List.any_append, hno]; simp
      have HY : Hid (p us[k] = true → us.any p = true) := fun h => List.any_eq_true.2 ⟨_, List.getElem_mem hlt, h⟩
      have HE := hid hE
      clear hcell h3 hE c0 c1 c2 hp hno
      generalize us[k] = v at *
      go_wp2_with fail
      refine (HP.out).mono ?_
      rintro e w' ⟨rfl, hx⟩
      have HX := hid (HE.out.trans hx)
      clear hx
      cases hpv : p v with
      | true =>
        go_wp2_with fail
        go_ret
        exact ⟨⟨_, rfl, by rw [HY.out hpv]; simp⟩, HX.out⟩
      | false =>
        go_wp2_with fail
        go_roundw
        case rel => exact ⟨k + 1, by omega, by go_num, HX.out, by rw [HS.out, hpv]⟩
        case measure => simp [intOf]; omega
    · obtain rfl : k = us.length := by omega
      rw [List.take_length] at hno
      have HE := hid hE
      have HN := hid hno
      clear hE h3 hno
      go_wp2_with fail
      go_ret
      exact ⟨⟨-1, rfl, by rw [HN.out]; rfl⟩, HE.out⟩

set_option maxRecDepth 100000 in
set_option maxHeartbeats 2000000 in
theorem containsf_c (w : World) (x : Value) (us : List UseI) (f : Nat) (cap : Array Value) (h : Sl w 3 x (Uses us)) (hl : us.length ≤ 200000) (hcf : ∀ (args : Array Value) (W : World), (callFunc f args).run Try.prog W = .ok (.enter f args) W) (p : UseI → Bool)
    (hp : ∀ W v, v ∈ us → Ext w W → Hid (Calls Try.prog f (#[.agg #[.string v.pre, .int .i64 v.files, .int .i64 v.bytes]] ++ cap) W (Ret (.bool (p v)) W))) :
    Calls Try.prog 50 #[x, .func (.func f) #[] cap] w (Ret (.bool (us.any p)) w) := by
  have HI := hid (indexf_c w x us f cap h hl hcf p hp)
  clear h hp hcf
  generalize us.any p = b at HI ⊢
  go_enter Try.func50, Try.ntmps50
  go_wp2_with (go_at_call 53; refine (HI.out).mono ?_; rintro e w' ⟨⟨z, rfl, hz⟩, hx⟩; have HX := hid hx; clear hx)
  go_ret
  exact ⟨rfl, HX.out⟩
end Go.Proofs.Ytfoafookodldfaa
