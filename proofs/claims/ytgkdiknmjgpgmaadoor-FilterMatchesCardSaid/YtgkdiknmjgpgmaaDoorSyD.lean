/-
  The document's ranges of two sets; the same ranges.
-/
import Derived.Test.YtgkdiknmjgpgmaaDoorSyC
namespace Go.Proofs.YtgkdiknmjgpgmaaDoor.Sz
open Go.RowKit

theorem upTo_get (f : Int → Bool) (N k : Nat) (h : k < (upTo f N).length) : (upTo f N)[k] = f k := by simp [upTo]
theorem setB_upTo (f : Int → Bool) (n : Int) : setB (upTo f 201) n ↔ 0 ≤ n ∧ n ≤ 200 ∧ f n = true := by
  unfold setB
  constructor
  · rintro ⟨h0, h1⟩
    obtain ⟨h2, h3⟩ := List.getElem?_eq_some_iff.1 h1
    rw [upTo_get] at h3
    rw [upTo_len] at h2
    rw [show ((n.toNat : Nat) : Int) = n by omega] at h3
    exact ⟨h0, by omega, h3⟩
  · rintro ⟨h0, h1, h2⟩
    refine ⟨h0, List.getElem?_eq_some_iff.2 ⟨by rw [upTo_len]; omega, ?_⟩⟩
    rw [upTo_get, show ((n.toNat : Nat) : Int) = n by omega]
    exact h2
theorem holds_out (l : List Rng) (n : Int) (h : holdsB l n = true) : 0 ≤ n ∧ n ≤ 200 := by
  have := (holdsB_iff l n).1 h
  exact ⟨this.1, this.2.1⟩

theorem sl_upTo {f : Int → Bool} {w : World} {v : Value} (h : Sl w 1 v ((upTo f 201).map bitC)) : ∃ b o c, v = .slice (some ⟨b, o, none⟩) 201 c ∧ 201 ≤ c ∧ c ≤ maxLen ∧ b < w.heap.size ∧ ∀ k : Nat, k < 201 → w.cell? ⟨b, o + k, none⟩ = some (.bool (f k)) := by
  obtain ⟨A, c, h1, h2, h3, h4⟩ := sl_get h
  have hl := upTo_len f 201
  obtain ⟨b, o, h5, h6, h7⟩ := h4 (by omega)
  rw [hl] at h1 h2
  refine ⟨b, o, c, by rw [h1, h5], h2, h3, h6, fun k hk => ?_⟩
  have := h7 k (by omega) 0 _ rfl
  rw [Nat.add_zero, Nat.mul_one, upTo_get] at this
  exact this
set_option maxRecDepth 100000 in
set_option maxHeartbeats 1000000 in
theorem rsame8_c (w : World) (u v : Value) (l : List Rng) (hu : Sl w 2 u (l.map Rng.cells)) (hv : Sl w 2 v (l.map Rng.cells)) : Calls Tryd.prog 35 #[u, v] w (Ret (.bool true) w) := by
  obtain ⟨A, c, rfl, h1, h2, h3⟩ := sl_get hu
  obtain ⟨B, d, rfl, k1, k2, k3⟩ := sl_get hv
  clear hu hv
  unfold maxLen at h2 k2
  go_enter Tryd.func35, Tryd.ntmps35
  go_wp2_with fail
  go_loopw [5] (fun i wr => ∃ k : Nat, k ≤ l.length ∧ i = .int .i64 k ∧ Ext w wr) (fun i _ => l.length - (intOf i).toNat)
  case atStart => exact ⟨0, by omega, rfl, Ext.refl _⟩
  case round =>
    obtain ⟨k, hk, rfl, hE⟩ := hrel
    by_cases hlt : k < l.length
    · obtain ⟨b, o, rfl, lb, hcell⟩ := h3 (by omega)
      obtain ⟨b', o', rfl, lb', hcell'⟩ := k3 (by omega)
      have c0 := hE.cell (hcell k hlt 0 _ rfl)
      have c1 := hE.cell (hcell k hlt 1 _ rfl)
      have d0 := hE.cell (hcell' k hlt 0 _ rfl)
      have d1 := hE.cell (hcell' k hlt 1 _ rfl)
      rw [Nat.add_zero] at c0 d0
      have HE := hid hE
      clear hcell hcell' h3 k3 hE
      generalize l[k] = x at *
      have hs := eq2_self x.lo x.hi
      go_wp2_with fail
      go_quiet (fail)
      go_wp2_with fail
      exact ⟨⟨k + 1, by omega, by go_num, HE.out.drewN' _⟩, by simp [intOf]; omega⟩
    · have HE := hid hE
      clear hE h3 k3
      go_wp2_with fail
      go_ret
      exact ⟨rfl, HE.out⟩
end Go.Proofs.YtgkdiknmjgpgmaaDoor.Sz
