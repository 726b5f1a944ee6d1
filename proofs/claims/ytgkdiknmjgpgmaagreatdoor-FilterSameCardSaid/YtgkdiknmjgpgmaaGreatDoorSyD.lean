/-
  The document's ranges of two sets; the same ranges.
-/
import Derived.Test.YtgkdiknmjgpgmaaGreatDoorSyC
namespace Go.Proofs.YtgkdiknmjgpgmaaGreatDoor.Sz
open Go.RowKit

theorem upTo_get (f : Int → Bool) (N k : Nat) (h : k < (upTo f N).length) : (upTo f N)[k] = f k := by simp [upTo]
theorem setB_upTo (f : Int → Bool) (n : Int) : setB (upTo f 201) n ↔ 0 ≤ n ∧ n ≤ 200 ∧ f n = true := by
  unfold setB
  constructor
  · rintro ⟨h0, h1⟩
    obtain ⟨h2, h3⟩ := List.getElem?_eq_some_iff.1 h1
    rw [upTo_get] at h3
    rw [upTo_len] at h2
    rw [show ((n.toNat : Nat) : Int) = n by omega] at h3
    exact ⟨h0, by omega, h3⟩
  · rintro ⟨h0, h1, h2⟩
    refine ⟨h0, List.getElem?_eq_some_iff.2 ⟨by rw [upTo_len]; omega, ?_⟩⟩
    rw [upTo_get, show ((n.toNat : Nat) : Int) = n by omega]
    exact h2
theorem holds_out (l : List Rng) (n : Int) (h : holdsB l n = true) : 0 ≤ n ∧ n ≤ 200 := by
  have := (holdsB_iff l n).1 h
  exact ⟨this.1, this.2.1⟩

theorem sl_upTo {f : Int → Bool} {w : World} {v : Value} (h : Sl w 1 v ((upTo f 201).map bitC)) : ∃ b o c, v = .slice (some ⟨b, o, none⟩) 201 c ∧ 201 ≤ c ∧ c ≤ maxLen ∧ b < w.heap.size ∧ ∀ k : Nat, k < 201 → w.cell? ⟨b, o + k, none⟩ = some (.bool (f k)) := by
  obtain ⟨A, c, h1, h2, h3, h4⟩ := sl_get h
  have hl := upTo_len f 201
  obtain ⟨b, o, h5, h6, h7⟩ := h4 (by omega)
  rw [hl] at h1 h2
  refine ⟨b, o, c, by rw [h1, h5], h2, h3, h6, fun k hk => ?_⟩
  have := h7 k (by omega) 0 _ rfl
  rw [Nat.add_zero, Nat.mul_one, upTo_get] at this
  exact this
set_option maxRecDepth 100000 in
set_option maxHeartbeats 4000000 in
theorem rtwo2_f (w : World) (v u : Value) (a b : List Rng) (h : Sl w 2 v (a.map Rng.cells)) (hb : Sl w 2 u (b.map Rng.cells)) : Calls Tryz.prog 24 #[v, u, .int .i64 2] w (RetQ (fun v' w' => RowAt Rng.cells 2 (nf fun n => sizes a n ∧ ¬ sizes b n) v' w' ∧ Fresh w v') w) := by
  have HO1 := hid (rof8_c w v a h)
  have HO2 := fun W (hW : Ext w W) => hid (rof8_c W u b (hb.ext hW))
  have HLn := fun k => upTo_len (fun n => (fun x y => x && !y) (holdsB a n) (holdsB b n)) k
  have HSs := fun k => hid (upTo_succ (fun n => (fun x y => x && !y) (holdsB a n) (holdsB b n)) k)
  have HFm := fun W (u : Value) (hs : Sl W 1 u ((upTo (fun n => (fun x y => x && !y) (holdsB a n) (holdsB b n)) 201).map bitC)) => hid (rform_f W u _ hs (by rw [upTo_len]; omega))
  have hset : nf (setB (upTo (fun n => (fun x y => x && !y) (holdsB a n) (holdsB b n)) 201)) = nf (fun n => sizes a n ∧ ¬ sizes b n) := nf_congr fun n => by
    rw [setB_upTo]
    have e1 := holdsB_iff a n
    have e2 := holdsB_iff b n
    have e3 := holds_out a n
    have e4 := holds_out b n
    rw [← e1, ← e2]
    cases h1 : holdsB a n <;> cases h2 : holdsB b n <;> simp_all
  rw [hset] at HFm
  obtain ⟨A, c, rfl, _⟩ := sl_get h
  obtain ⟨A', c', rfl, _⟩ := sl_get hb
  clear h hb hset
  go_enter Tryz.func24, Tryz.ntmps24
  go_wp2_with (first
    | (go_at_call 40; have tok := HX1; clear tok; refine (HO2 _ HX1.out).out.mono ?_; rintro e w2 ⟨y, rfl, hy, hx2⟩; have HX2 := hid (HX1.out.trans hx2); have HSx := hid (Hx.out.ext hx2); have HSy := hid hy; clear hy hx2)
    | (go_at_call 40; refine (HO1.out).mono ?_; rintro e w1 ⟨x, rfl, hx, hx1⟩; have HX1 := hid hx1; have Hx := hid hx; clear hx hx1))
  obtain ⟨b1, o1, c1, hxv, x1, x2, lb1, hc1⟩ := sl_upTo HSx.out
  obtain ⟨b2, o2, c2, hyv, y1, y2, lb2, hc2⟩ := sl_upTo HSy.out
  subst hxv hyv
  unfold maxLen at x2 y2
  clear HO1 HO2 Hx HSx HSy
  go_loopw [9, 10] (fun v i wr => ∃ k : Nat, k ≤ 201 ∧ i = .int .i64 k ∧ Ext w2 wr ∧ wr.ownsRow w2.heap.size 4 1 v (upTo (fun n => (fun x y => x && !y) (holdsB a n) (holdsB b n)) k).length ((upTo (fun n => (fun x y => x && !y) (holdsB a n) (holdsB b n)) k).map bitC).flatten) (fun _ i _ => 201 - (intOf i).toNat)
  case atStart => exact ⟨0, by omega, rfl, Ext.refl _, ownsRow_nil _ _ _ _⟩
  case round =>
    obtain ⟨k, hk, rfl, hE, hO⟩ := hrel
    have HE := hid hE
    by_cases hlt : k < 201
    · have HO := hid hO
      have hlen := HLn k
      have HS := HSs k
      have d1 := hE.cell (hc1 k hlt)
      have d2 := hE.cell (hc2 k hlt)
      clear hE hO HLn HSs hc1 hc2
      generalize upTo (fun n => (fun x y => x && !y) (holdsB a n) (holdsB b n)) k = acc at HO hlen HS
      generalize holdsB a k = X at HS d1
      generalize holdsB b k = Y at HS d2
      obtain ⟨v', w4, hrun, ho4, hk4, _⟩ := app_one (P := Tryz.prog) bit_elem bit_coded HO.out HE.out.size ((fun x y => x && !y) X Y) (by omega) (by omega)
      have HO4 := hid ho4
      have HE4 : Hid (Ext w2 w4) := hk4.toExt HE.out (fun q hq => (row_block HO.out q hq).1)
      unfold bitC at hrun
      clear ho4 hk4 hlen
      cases X <;> cases Y
      all_goals
        simp only [Bool.and_true, Bool.and_false, Bool.or_true, Bool.or_false, Bool.not_true, Bool.not_false] at hrun HS HO4
        go_wp2_with (at_builtin; refine wpList_app rfl (.tmp 55) (.tmp 57) _ _ rfl rfl rfl hrun ?_)
        go_roundw
        case rel => exact ⟨k + 1, by omega, by go_num, HE4.out, by rw [HS.out]; exact HO4.out⟩
        case measure => simp [intOf]; omega
    · obtain rfl : k = 201 := by omega
      have HF := HFm wr u9 (sl_of_row (bit_coded.sizes _) (by rw [List.length_map]; exact hO))
      clear hE hO HFm HLn HSs hc1 hc2
      go_wp2_with (go_at_call 41; refine (HF.out).mono ?_; rintro e w5 ⟨v5, rfl, hv5, hx5⟩; have HV5 := hid hv5; have HX5 := hid hx5; clear hv5 hx5)
      go_ret
      exact ⟨_, rfl, ⟨HV5.out.1, HV5.out.2.early (HX2.out.trans HE.out)⟩, HX2.out.trans (HE.out.trans HX5.out)⟩

end Go.Proofs.YtgkdiknmjgpgmaaGreatDoor.Sz
