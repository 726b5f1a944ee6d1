/-
  Package sizes: clean, has, the sort's closure.
-/
import Derived.Test.YtgkdiknmjgpgmaaGreatDoorVersG0
import Derived.Test.YtgkdiknmjgpgmaaGreatDoorRow
import Derived.Test.YtgkdiknmjgpgmaaGreatDoorSzP
import Derived.Test.YtgkdiknmjgpgmaaGreatDoorSoG
import Derived.Test.YtgkdiknmjgpgmaaGreatDoorSoR
namespace Go.Proofs.YtgkdiknmjgpgmaaGreatDoor.D
open Go.RowKit
def cmpR (a b : Rng) : Int := cmpI a.lo b.lo
set_option maxRecDepth 100000 in
set_option maxHeartbeats 400000 in
theorem lo_c (a b : Rng) (w : World) : Calls Tryz.prog 54 #[a.val, b.val] w (Ret (.int .i64 (cmpR a b)) w) := by
  have H := fun W => hid (compare_c a.lo b.lo W)
  unfold cmpR Rng.val
  generalize cmpI a.lo b.lo = z at H ⊢
  go_enter Tryz.func54, Tryz.ntmps54
  go_wp2_with (go_at_call 55; refine (H _).out.mono ?_; rintro e w' ⟨rfl, hx⟩)
  go_ret
  exact ⟨rfl, (((Ext.refl _).alloc' _).alloc' _).trans hx⟩
theorem lo_g (a b : Rng) (W : World) : Calls Tryz.prog 54 #[a.val, b.val] W fun e w' => e = .returned (.int .i64 (cmpR a b)) ∧ ∃ q os', w' = Go.Sort.grow (W.drewN q) os' :=
  (lo_c a b W).mono fun e w' ⟨he, hx⟩ => by
    obtain ⟨E, hE⟩ := hx.wext
    exact ⟨he, E.drawn, E.objs, hE⟩
end Go.Proofs.YtgkdiknmjgpgmaaGreatDoor.D
namespace Go.Proofs.YtgkdiknmjgpgmaaGreatDoor.Sz
open Go.RowKit Go.Sort

theorem rng_coded : Coded Rng.cells 2 := ⟨fun _ => rfl, fun a u hu => by simp [Rng.cells] at hu; rcases hu with rfl | rfl <;> rfl⟩
theorem rng_info : (Tryz.prog.info? 32).map (fun i => (i.zero, i.size, i.bytes)) = some (some (.agg #[.int .i64 0, .int .i64 0]), 2, 16) := by kernel_rfl
theorem rng_elem : Elem Tryz.prog 40 32 2 16 := by
  obtain ⟨i0, h0, h1, h2, h3⟩ := info_parts rng_info
  exact ⟨Tryz.underlying40, i0, _, h0, h1, h2, h3, rfl⟩
theorem run_eq_rng (a1 a2 b1 b2 : Int) (w : World) : (Op.equalIn 10000 32 (.agg #[.int .i64 a1, .int .i64 a2]) (.agg #[.int .i64 b1, .int .i64 b2])).run Tryz.prog w = .ok (eq2 a1 a2 b1 b2) w := by
  by_cases h1 : a1 = b1 <;> by_cases h2 : a2 = b2 <;> simp [go_sem, eq2, h1, h2]
attribute [go_sem 2000] run_eq_rng

theorem cmpR_lt (a b : Rng) : ltOf D.cmpR a b = decide (a.lo < b.lo) := by
  unfold ltOf D.cmpR cmpI
  by_cases h1 : a.lo < b.lo <;> by_cases h2 : b.lo < a.lo <;> simp [h1, h2]
theorem swo_rng : SWO (ltOf D.cmpR) := by
  refine ⟨fun a => by rw [cmpR_lt]; simp, fun a b c h1 h2 => ?_, fun a b c h1 h2 => ?_⟩
  · rw [cmpR_lt] at *; simp only [decide_eq_true_eq] at *; omega
  · rw [cmpR_lt] at *; simp only [decide_eq_false_iff_not] at *; omega
theorem sortRng_c {w : World} {B : Nat} {v : Value} {l : List Rng} (h : w.ownsRow B 32 2 v l.length (l.map Rng.cells).flatten) (hl : l.length ≤ 1000000) :
    Calls Tryz.prog 53 #[v, .func (.func 54) #[] #[]] w fun en w' => en = .returned (.tuple #[]) ∧ Keep (fun q => v.ownBlock = some q) w w' ∧ ∃ l' : List Rng, l'.Perm l ∧ l'.Pairwise (fun x y => ltOf D.cmpR y x = false) ∧ w'.ownsRow B 32 2 v l'.length (l'.map Rng.cells).flatten :=
  sort_c (P := Tryz.prog) Tryz.sortRange Tryz.isAgg32 Tryz.sizeOf32 rng_coded.len rng_coded.one D.cmpR swo_rng 54 (fun _ _ => run_callFunc Tryz.func54 (by kernel_rfl) (by kernel_rfl)) (fun W x y => D.lo_g x y W) h hl

set_option maxHeartbeats 400000 in
theorem clean_c (r : Rng) (w : World) : Calls Tryz.prog 44 #[r.val] w (Ret (cleanR r).val w) := by
  unfold Rng.val cleanR
  go_enter Tryz.func44, Tryz.ntmps44
  go_wp2_with fail
  exact bodyPost_ret (v := .agg #[.int .i64 (max r.lo 0), .int .i64 (min r.hi 200)]) (by simp [results, Tryz.results44, go_sem]) rfl ⟨rfl, ((Ext.refl _).alloc' _).alloc' _⟩
set_option maxHeartbeats 400000 in
theorem has_c (r : Rng) (w : World) : Calls Tryz.prog 52 #[r.val] w (Ret (.bool (hasR r)) w) := by
  have H := fun W => hid (clean_c r W)
  unfold hasR
  generalize cleanR r = q at H ⊢
  unfold Rng.val at *
  go_enter Tryz.func52, Tryz.ntmps52
  go_wp2_with (go_at_call 44; refine (H _).out.mono ?_; rintro e w1 ⟨rfl, hx⟩; have hb := (Blk.new w 32 #[.int .i64 r.lo, .int .i64 r.hi]).ext hx; have c0 := hb.cell (i := 0) (v := .int .i64 r.lo) rfl; have c1 := hb.cell (i := 1) (v := .int .i64 r.hi) rfl; have f0 := hb.frozen 0; have f1 := hb.frozen 1; have lb := hb.lt; have HX := hid hx; clear hx hb)
  go_ret
  exact ⟨rfl, (((Ext.alloc _ _).trans HX.out).setCell' (Nat.le_refl _) _).setCell' (Nat.le_refl _) _⟩
end Go.Proofs.YtgkdiknmjgpgmaaGreatDoor.Sz
