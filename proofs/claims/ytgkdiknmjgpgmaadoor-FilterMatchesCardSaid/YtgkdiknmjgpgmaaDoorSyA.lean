/-
  Package sizes: clean, has, the sort's closure.
-/
import Derived.Test.YtgkdiknmjgpgmaaDoorVersG0
import Derived.Test.YtgkdiknmjgpgmaaDoorRow
import Derived.Test.YtgkdiknmjgpgmaaDoorSzP
import Derived.Test.YtgkdiknmjgpgmaaDoorSoG
import Derived.Test.YtgkdiknmjgpgmaaDoorSoR
namespace Go.Proofs.YtgkdiknmjgpgmaaDoor.D
open Go.RowKit
def cmpR (a b : Rng) : Int := cmpI a.lo b.lo
set_option maxRecDepth 100000 in
set_option maxHeartbeats 400000 in
theorem lo_c (a b : Rng) (w : World) : Calls Tryd.prog 77 #[a.val, b.val] w (Ret (.int .i64 (cmpR a b)) w) := by
  have H := fun W => hid (compare_c a.lo b.lo W)
  unfold cmpR Rng.val
  generalize cmpI a.lo b.lo = z at H ⊢
  go_enter Tryd.func77, Tryd.ntmps77
  go_wp2_with (go_at_call 78; refine (H _).out.mono ?_; rintro e w' ⟨rfl, hx⟩)
  go_ret
  exact ⟨rfl, (((Ext.refl _).alloc' _).alloc' _).trans hx⟩
theorem lo_g (a b : Rng) (W : World) : Calls Tryd.prog 77 #[a.val, b.val] W fun e w' => e = .returned (.int .i64 (cmpR a b)) ∧ ∃ q os', w' = Go.Sort.grow (W.drewN q) os' :=
  (lo_c a b W).mono fun e w' ⟨he, hx⟩ => by
    obtain ⟨E, hE⟩ := hx.wext
    exact ⟨he, E.drawn, E.objs, hE⟩
end Go.Proofs.YtgkdiknmjgpgmaaDoor.D
namespace Go.Proofs.YtgkdiknmjgpgmaaDoor.Sz
open Go.RowKit Go.Sort

theorem rng_coded : Coded Rng.cells 2 := ⟨fun _ => rfl, fun a u hu => by simp [Rng.cells] at hu; rcases hu with rfl | rfl <;> rfl⟩
theorem rng_info : (Tryd.prog.info? 56).map (fun i => (i.zero, i.size, i.bytes)) = some (some (.agg #[.int .i64 0, .int .i64 0]), 2, 16) := by kernel_rfl
theorem rng_elem : Elem Tryd.prog 64 56 2 16 := by
  obtain ⟨i0, h0, h1, h2, h3⟩ := info_parts rng_info
  exact ⟨Tryd.underlying64, i0, _, h0, h1, h2, h3, rfl⟩
theorem run_eq_rng (a1 a2 b1 b2 : Int) (w : World) : (Op.equalIn 10000 56 (.agg #[.int .i64 a1, .int .i64 a2]) (.agg #[.int .i64 b1, .int .i64 b2])).run Tryd.prog w = .ok (eq2 a1 a2 b1 b2) w := by
  by_cases h1 : a1 = b1 <;> by_cases h2 : a2 = b2 <;> simp [go_sem, eq2, h1, h2]
attribute [go_sem 2000] run_eq_rng

theorem cmpR_lt (a b : Rng) : ltOf D.cmpR a b = decide (a.lo < b.lo) := by
  unfold ltOf D.cmpR cmpI
  by_cases h1 : a.lo < b.lo <;> by_cases h2 : b.lo < a.lo <;> simp [h1, h2]
theorem swo_rng : SWO (ltOf D.cmpR) := by
  refine ⟨fun a => by rw [cmpR_lt]; simp, fun a b c h1 h2 => ?_, fun a b c h1 h2 => ?_⟩
  · rw [cmpR_lt] at *; simp only [decide_eq_true_eq] at *; omega
  · rw [cmpR_lt] at *; simp only [decide_eq_false_iff_not] at *; omega
theorem sortRng_c {w : World} {B : Nat} {v : Value} {l : List Rng} (h : w.ownsRow B 56 2 v l.length (l.map Rng.cells).flatten) (hl : l.length ≤ 1000000) :
    Calls Tryd.prog 76 #[v, .func (.func 77) #[] #[]] w fun en w' => en = .returned (.tuple #[]) ∧ Keep (fun q => v.ownBlock = some q) w w' ∧ ∃ l' : List Rng, l'.Perm l ∧ l'.Pairwise (fun x y => ltOf D.cmpR y x = false) ∧ w'.ownsRow B 56 2 v l'.length (l'.map Rng.cells).flatten :=
  sort_c (P := Tryd.prog) Tryd.sortRange Tryd.isAgg56 Tryd.sizeOf56 rng_coded.len rng_coded.one D.cmpR swo_rng 77 (fun _ _ => run_callFunc Tryd.func77 (by kernel_rfl) (by kernel_rfl)) (fun W x y => D.lo_g x y W) h hl

set_option maxHeartbeats 400000 in
theorem clean_c (r : Rng) (w : World) : Calls Tryd.prog 72 #[r.val] w (Ret (cleanR r).val w) := by
  unfold Rng.val cleanR
  go_enter Tryd.func72, Tryd.ntmps72
  go_wp2_with fail
  exact bodyPost_ret (v := .agg #[.int .i64 (max r.lo 0), .int .i64 (min r.hi 200)]) (by simp [results, Tryd.results72, go_sem]) rfl ⟨rfl, ((Ext.refl _).alloc' _).alloc' _⟩
set_option maxHeartbeats 400000 in
theorem has_c (r : Rng) (w : World) : Calls Tryd.prog 75 #[r.val] w (Ret (.bool (hasR r)) w) := by
  have H := fun W => hid (clean_c r W)
  unfold hasR
  generalize cleanR r = q at H ⊢
  unfold Rng.val at *
  go_enter Tryd.func75, Tryd.ntmps75
  go_wp2_with (go_at_call 72; refine (H _).out.mono ?_; rintro e w1 ⟨rfl, hx⟩; have hb := (Blk.new w 56 #[.int .i64 r.lo, .int .i64 r.hi]).ext hx; have c0 := hb.cell (i := 0) (v := .int .i64 r.lo) rfl; have c1 := hb.cell (i := 1) (v := .int .i64 r.hi) rfl; have f0 := hb.frozen 0; have f1 := hb.frozen 1; have lb := hb.lt; have HX := hid hx; clear hx hb)
  go_ret
  exact ⟨rfl, (((Ext.alloc _ _).trans HX.out).setCell' (Nat.le_refl _) _).setCell' (Nat.le_refl _) _⟩
end Go.Proofs.YtgkdiknmjgpgmaaDoor.Sz
