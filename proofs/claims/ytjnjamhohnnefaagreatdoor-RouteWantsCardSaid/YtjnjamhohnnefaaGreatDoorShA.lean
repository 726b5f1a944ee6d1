/-
  sizes.Holds (out of XSzA, XSzE).
-/
import Derived.Test.YtjnjamhohnnefaaGreatDoorProg
import Derived.Test.YtjnjamhohnnefaaGreatDoorRow
import Derived.Test.YtjnjamhohnnefaaGreatDoorSzP
namespace Go.Proofs.YtjnjamhohnnefaaGreatDoor
set_option linter.unusedSimpArgs false
set_option linter.unusedVariables false
open Go.RowKit

theorem rng_coded : Coded Rng.cells 2 := ⟨fun _ => rfl, fun a u hu => by simp [Rng.cells] at hu; rcases hu with rfl | rfl <;> rfl⟩
set_option maxHeartbeats 400000 in
theorem clean_c (r : Rng) (w : World) : Calls Tryz.prog 86 #[r.val] w (Ret (cleanR r).val w) := by
  unfold Rng.val cleanR
  go_enter Tryz.func86, Tryz.ntmps86
  go_wp2_with fail
  exact bodyPost_ret (v := .agg #[.int .i64 (max r.lo 0), .int .i64 (min r.hi 200)]) (by simp [results, Tryz.results86, go_sem]) rfl ⟨rfl, ((Ext.refl _).alloc' _).alloc' _⟩
def cutsB (n : Int) (r : Rng) : Bool := decide ((cleanR r).lo ≤ n) && decide (n ≤ (cleanR r).hi)
set_option maxHeartbeats 1000000 in
theorem holds1_c (w : World) (q : Nat) (n : Int) (r : Rng) (h : Blk w q 3 #[.int .i64 n]) : Calls Tryz.prog 85 #[r.val, .pointer (some ⟨q, 0, none⟩)] w (Ret (.bool (cutsB n r)) w) := by
  have H := fun W => hid (clean_c r W)
  unfold cutsB
  generalize cleanR r = s at H ⊢
  have HQ := fun W (hW : Ext w W) => hid (⟨(h.ext hW).cell (i := 0) (v := .int .i64 n) rfl, (h.ext hW).lt⟩ : W.cell? ⟨q, 0, none⟩ = some (.int .i64 n) ∧ q < W.heap.size)
  have hlt := h.lt
  clear h
  unfold Rng.val at *
  by_cases h1 : s.lo ≤ n
  · have e1 : decide (s.lo ≤ n) = true := decide_eq_true h1
    rw [e1]
    go_enter Tryz.func85, Tryz.ntmps85
    go_wp2_with fail
    refine (H _).out.mono ?_
    rintro e w1 ⟨rfl, hx⟩
    have hb := (Blk.new w 63 #[.int .i64 r.lo, .int .i64 r.hi]).ext hx
    have c0 := hb.cell (i := 0) (v := .int .i64 r.lo) rfl
    have c1 := hb.cell (i := 1) (v := .int .i64 r.hi) rfl
    have f0 := hb.frozen 0
    have f1 := hb.frozen 1
    have lb := hb.lt
    obtain ⟨q0, ql⟩ := (HQ _ ((Ext.alloc _ _).trans hx)).out
    have HX := hid hx
    have hne : ¬ w.heap.size = q := by omega
    clear hx hb
    go_wp2_with fail
    go_ret
    exact ⟨by simp, (((Ext.alloc _ _).trans HX.out).setCell' (Nat.le_refl _) _).setCell' (Nat.le_refl _) _⟩
  · have e1 : decide (s.lo ≤ n) = false := decide_eq_false h1
    rw [e1]
    go_enter Tryz.func85, Tryz.ntmps85
    go_wp2_with fail
    refine (H _).out.mono ?_
    rintro e w1 ⟨rfl, hx⟩
    have hb := (Blk.new w 63 #[.int .i64 r.lo, .int .i64 r.hi]).ext hx
    have c0 := hb.cell (i := 0) (v := .int .i64 r.lo) rfl
    have c1 := hb.cell (i := 1) (v := .int .i64 r.hi) rfl
    have f0 := hb.frozen 0
    have f1 := hb.frozen 1
    have lb := hb.lt
    obtain ⟨q0, ql⟩ := (HQ _ ((Ext.alloc _ _).trans hx)).out
    have HX := hid hx
    have hne : ¬ w.heap.size = q := by omega
    clear hx hb
    go_wp2_with fail
    go_ret
    exact ⟨by simp, (((Ext.alloc _ _).trans HX.out).setCell' (Nat.le_refl _) _).setCell' (Nat.le_refl _) _⟩

set_option maxRecDepth 100000 in
set_option maxHeartbeats 1000000 in
theorem index_c (w : World) (v : Value) (l : List Rng) (q : Nat) (p : Rng → Bool) (h : Sl w 2 v (l.map Rng.cells)) (HP : ∀ W, Ext w W → ∀ x : Rng, Hid (Calls Tryz.prog 85 #[x.val, .pointer (some ⟨q, 0, none⟩)] W (Ret (.bool (p x)) W))) :
    Calls Tryz.prog 111 #[v, .func (.func 85) #[] #[.pointer (some ⟨q, 0, none⟩)]] w (RetQ (fun u _ => ∃ z : Int, u = .int .i64 z ∧ decide (0 ≤ z) = l.any p) w) := by
  obtain ⟨A, c, rfl, h1, h2, h3⟩ := sl_get h
  unfold maxLen at h2
  have R1 : Hid (∀ k (h : k < l.length), p l[k] = true → l.any p = true) := fun k h e => List.any_eq_true.2 ⟨_, List.getElem_mem h, e⟩
  have R2 : Hid ((∀ y ∈ l, p y = false) → l.any p = false) := fun h => List.any_eq_false.2 fun x hx => by simp [h x hx]
  generalize l.any p = r at R1 R2 ⊢
  clear h
  go_enter Tryz.func111, Tryz.ntmps111
  go_wp2_with fail
  go_loopw [8] (fun i wr => ∃ k : Nat, k ≤ l.length ∧ i = .int .i64 k ∧ Ext w wr ∧ Hid (∀ y ∈ l.take k, p y = false)) (fun i _ => l.length - (intOf i).toNat)
  case atStart => exact ⟨0, by omega, rfl, Ext.refl _, fun y hy => by simp at hy⟩
  case round =>
    obtain ⟨k, hk, rfl, hE, hno⟩ := hrel
    by_cases hlt : k < l.length
    · obtain ⟨b, o, rfl, lb, hcell⟩ := h3 (by omega)
      have c0 := hE.cell (hcell k hlt 0 _ rfl)
      have c1 := hE.cell (hcell k hlt 1 _ rfl)
      rw [Nat.add_zero] at c0
      have lbr := Nat.lt_of_lt_of_le lb hE.size
      have HE := hid hE
      have R3 := hid (R1.out k hlt)
      have HN2 : Hid (p l[k] = false → ∀ y ∈ l.take (k + 1), p y = false) := fun hf y hy => by
        rw [List.take_succ_eq_append_getElem hlt] at hy
        rcases List.mem_append.1 hy with hy | hy
        · exact hno.out y hy
        · rw [List.mem_singleton.1 hy]; exact hf
      have HPk := fun W (hW : Ext wr W) => HP W (hE.trans hW) l[k]
      clear hcell h3 hE HP
      generalize l[k] = z at c0 c1 R3 HN2 HPk
      unfold Rng.val at HPk
      cases hp : p z with
      | true =>
        rw [hp] at HPk
        have hr := hid (R3.out hp)
        clear R3 HN2 R1 R2
        go_wp2_with fail
        refine (HPk _ (Ext.refl _)).out.mono ?_
        rintro e w' ⟨rfl, hx⟩
        go_wp2_with fail
        go_ret
        exact ⟨_, rfl, ⟨_, rfl, by rw [hr.out]; simp⟩, HE.out.trans hx⟩
      | false =>
        rw [hp] at HPk
        have HN3 := hid (HN2.out hp)
        clear R3 HN2
        go_wp2_with fail
        refine (HPk _ (Ext.refl _)).out.mono ?_
        rintro e w' ⟨rfl, hx⟩
        go_wp2_with fail
        go_roundw
        case rel => exact ⟨k + 1, by omega, by go_num, HE.out.trans hx, HN3.out⟩
        case measure => simp [intOf]; omega
    · obtain rfl : k = l.length := by omega
      have HE := hid hE
      rw [List.take_length] at hno
      have hr := hid (R2.out hno.out)
      clear hE h3 hno R1 R2 HP
      go_wp2_with fail
      go_ret
      exact ⟨_, rfl, ⟨_, rfl, by rw [hr.out]; rfl⟩, HE.out⟩
set_option maxRecDepth 100000 in
set_option maxHeartbeats 1000000 in
theorem holds_c (w : World) (v : Value) (l : List Rng) (n : Int) (h : Sl w 2 v (l.map Rng.cells)) : Calls Tryz.prog 71 #[v, .int .i64 n] w (Ret (.bool (l.any (cutsB n))) w) := by
  have HI := hid (index_c (w.alloc (.cells #[.int .i64 n] 3)) v l w.heap.size (cutsB n) (h.ext (Ext.alloc _ _)) (fun W hW x => hid (holds1_c W w.heap.size n x ((Blk.new w _ _).ext hW))))
  generalize l.any (cutsB n) = r at HI ⊢
  obtain ⟨A, c, rfl, _⟩ := sl_get h
  clear h
  go_enter Tryz.func71, Tryz.ntmps71
  go_wp2_with (first
    | (go_at_call 87; go_in)
    | (go_at_call 111; refine (HI.out).mono ?_; rintro e w' ⟨u, rfl, ⟨z, rfl, hz⟩, hx⟩))
  go_ret
  exact ⟨by rw [← hz]; rfl, (Ext.alloc _ _).trans hx⟩

theorem lit_row {α : Type} {code : α → List Value} {sz : Nat} (hc : Coded code sz) {w : World} {n : Nat} (e : TypeId) (l : List α) (cs : Array Value) (hcs : cs = ((l.map code).flatten).toArray) (hn : l.length = n) (hm : n ≤ maxLen) : Sl (w.alloc (.cells cs e)) sz (.slice (some ⟨w.heap.size, 0, none⟩) n n) (l.map code) :=
  Sl.of_flat (Blk.new w e cs) ⟨[], by rw [hcs]; simp⟩ (hc.sizes l) (by simpa using hn) (Nat.le_refl _) hm
end Go.Proofs.YtjnjamhohnnefaaGreatDoor
