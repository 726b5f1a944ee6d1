/-
  Package sizes: Join, Meet, rest, Minus, Covers, Same.
-/
import Derived.Test.YtgkdiknmjgpgmaaGreatDoorSyD
namespace Go.Proofs.YtgkdiknmjgpgmaaGreatDoor.Sz
open Go.RowKit

theorem sizes_append (a b : List Rng) (n : Int) : sizes (a ++ b) n ↔ sizes a n ∨ sizes b n := by
  unfold sizes
  rw [memS_append]
  constructor
  · rintro ⟨h0, h1, h | h⟩
    · exact .inl ⟨h0, h1, h⟩
    · exact .inr ⟨h0, h1, h⟩
  · rintro (⟨h0, h1, h⟩ | ⟨h0, h1, h⟩)
    · exact ⟨h0, h1, .inl h⟩
    · exact ⟨h0, h1, .inr h⟩
/-- All pairs' cuts. -/
def cap (x y : Rng) : Rng := ⟨max x.lo y.lo, min x.hi y.hi⟩
def caps (A B : List Rng) : List Rng := A.flatMap fun x => B.map (cap x)
theorem caps_take (A B : List Rng) (k : Nat) (h : k < A.length) : caps (A.take (k + 1)) B = caps (A.take k) B ++ B.map (cap A[k]) := by
  unfold caps
  rw [List.take_succ_eq_append_getElem h, List.flatMap_append]
  simp
theorem caps_len (A B : List Rng) : (caps A B).length = A.length * B.length := by
  unfold caps
  induction A with
  | nil => simp
  | cons x A ih => rw [List.flatMap_cons, List.length_append, ih, List.length_map, List.length_cons, Nat.add_mul]; omega
theorem mem_caps {A B : List Rng} (hA : IsForm A) (hB : IsForm B) (n : Int) : sizes (caps A B) n ↔ memS A n ∧ memS B n := by
  unfold sizes caps
  constructor
  · rintro ⟨_, _, r, hr, h1, h2⟩
    obtain ⟨x, hx, hr⟩ := List.mem_flatMap.1 hr
    obtain ⟨y, hy, rfl⟩ := List.mem_map.1 hr
    unfold cap at h1 h2
    simp only at h1 h2
    exact ⟨⟨x, hx, by omega, by omega⟩, ⟨y, hy, by omega, by omega⟩⟩
  · rintro ⟨⟨x, hx, h1, h2⟩, ⟨y, hy, h3, h4⟩⟩
    have := hA.ok x hx
    unfold Ok1 at this
    refine ⟨by omega, by omega, cap x y, List.mem_flatMap.2 ⟨x, hx, List.mem_map.2 ⟨y, hy, rfl⟩⟩, ?_, ?_⟩
    · unfold cap; simp only; omega
    · unfold cap; simp only; omega
theorem map_take_succ (f : Rng → Rng) (l : List Rng) (k : Nat) (h : k < l.length) : (l.take (k + 1)).map f = (l.take k).map f ++ [f l[k]] := by
  rw [List.take_succ_eq_append_getElem h, List.map_append]
  rfl

set_option maxRecDepth 100000 in
set_option maxHeartbeats 4000000 in
theorem meet8_f (w : World) (v u : Value) (a b : List Rng) (h : Sl w 2 v (a.map Rng.cells)) (hb : Sl w 2 u (b.map Rng.cells)) (hl : a.length ≤ 300) (hl2 : b.length ≤ 300) : Calls Tryz.prog 36 #[v, u] w (RetQ (fun v' w' => RowAt Rng.cells 2 (nf fun n => sizes a n ∧ sizes b n) v' w' ∧ Fresh w v') w) := by
  have HNb := hid (norm_c w u b hb (by omega))
  have HNa := fun W (hW : Ext w W) => hid (norm_c W v a (h.ext hW) (by omega))
  obtain ⟨fa1, fa2, fa3⟩ := nf_form a
  obtain ⟨fb1, fb2, fb3⟩ := nf_form b
  obtain ⟨A0, c0, rfl, _⟩ := sl_get h
  obtain ⟨B0, d0, rfl, _⟩ := sl_get hb
  clear h hb
  have hset : nf (sizes (caps (nf (sizes a)) (nf (sizes b)))) = nf fun n => sizes a n ∧ sizes b n := nf_congr fun n => by rw [mem_caps fa1 fb1, fa2, fb2]
  generalize nf (sizes a) = A at *
  generalize nf (sizes b) = B at *
  have HNo := fun W (u : Value) (hs : Sl W 2 u ((caps A B).map Rng.cells)) => hid (norm_f W u (caps A B) hs (by rw [caps_len]; have := Nat.mul_le_mul fa3 fb3; have := Nat.mul_le_mul hl hl2; omega))
  rw [hset] at HNo
  have HLen : Hid (∀ k, k ≤ A.length → (caps (A.take k) B).length ≤ 90000) := fun k hk => by
    rw [caps_len, List.length_take]
    have h1 : min k A.length ≤ 300 := by omega
    have := Nat.mul_le_mul h1 (show B.length ≤ 300 by omega)
    omega
  clear hset fa1 fa2 fb1 fb2
  go_enter Tryz.func36, Tryz.ntmps36
  go_wp2_with (first
    | (go_at_call 38; have tok := HX1; clear tok; refine (HNa _ HX1.out).out.mono ?_; rintro e w2 ⟨x, rfl, hy, hx2⟩; obtain ⟨Aa, ca, hxa, p1, p2, p3⟩ := sl_get hy.1; obtain ⟨Ab, cb, hxb, q1, q2, q3⟩ := sl_get (HY.out.1.ext hx2); subst hxa hxb; have HX2 := hid (HX1.out.trans hx2); clear hy hx2)
    | (go_at_call 38; refine (HNb.out).mono ?_; rintro e w1 ⟨y, rfl, hy, hx1⟩; have HX1 := hid hx1; have HY := hid hy; clear hy hx1))
  unfold maxLen at p2 q2
  clear HY
  go_loopw [5, 15] (fun v i wr => ∃ k : Nat, k ≤ A.length ∧ i = .int .i64 k ∧ Ext w2 wr ∧ wr.ownsRow w2.heap.size 32 2 v (caps (A.take k) B).length ((caps (A.take k) B).map Rng.cells).flatten) (fun _ i _ => A.length - (intOf i).toNat)
  case atStart => exact ⟨0, by omega, rfl, Ext.refl _, ownsRow_nil _ _ _ _⟩
  case round =>
    obtain ⟨k, hk, rfl, hE, hO⟩ := hrel
    have HE := hid hE
    by_cases hlt : k < A.length
    · obtain ⟨b', o, rfl, lb, hcell⟩ := p3 (by omega)
      have e0 := hE.cell (hcell k hlt 0 _ rfl)
      have e1 := hE.cell (hcell k hlt 1 _ rfl)
      rw [Nat.add_zero] at e0
      have HS := hid (caps_take A B k hlt)
      have hlen := HLen.out k hk
      have HO := hid hO
      clear hE hO hcell p3
      generalize A[k] = x at e0 e1 HS
      generalize caps (A.take k) B = acc at HS HO hlen
      go_wp2_with fail
      have hB0 := Blk.new wr 32 #[.int .i64 x.lo, .int .i64 x.hi]
      have HOa := hid (ownsRow_ext HO.out (Ext.alloc wr (.cells #[.int .i64 x.lo, .int .i64 x.hi] 32)))
      have HEw := hid (HE.out.alloc' (.cells #[.int .i64 x.lo, .int .i64 x.hi] 32))
      have HNe : Hid (∀ q, u5.ownBlock = some q → q ≠ wr.heap.size) := fun q hq => by have := (row_block HO.out q hq).2; omega
      generalize wr.alloc (.cells #[.int .i64 x.lo, .int .i64 x.hi] 32) = wa at hB0 HOa HEw ⊢
      generalize wr.heap.size = ga at hB0 HNe ⊢
      have HB0 := hid hB0
      clear hB0 HO e0 e1
      go_loopw [5, 21] (fun v i wi => ∃ j : Nat, j ≤ B.length ∧ i = .int .i64 j ∧ Ext w2 wi ∧ Blk wi ga 32 #[.int .i64 x.lo, .int .i64 x.hi] ∧ Hid (∀ q, v.ownBlock = some q → q ≠ ga) ∧ wi.ownsRow w2.heap.size 32 2 v (acc ++ (B.take j).map (cap x)).length ((acc ++ (B.take j).map (cap x)).map Rng.cells).flatten) (fun _ i _ => B.length - (intOf i).toNat)
      case atStart => exact ⟨0, by omega, rfl, HEw.out, HB0.out, HNe, by simpa using HOa.out⟩
      case round =>
        obtain ⟨j, hj, rfl, hEi, hbi, hne, hOi⟩ := hrel
        have HEi := hid hEi
        by_cases hjlt : j < B.length
        · obtain ⟨b2, o2, rfl, lb2, hcell2⟩ := q3 (by omega)
          have y0 := hEi.cell (hcell2 j hjlt 0 _ rfl)
          have y1 := hEi.cell (hcell2 j hjlt 1 _ rfl)
          rw [Nat.add_zero] at y0
          have lbr2 := Nat.lt_of_lt_of_le lb2 hEi.size
          have HSj := hid (map_take_succ (cap x) B j hjlt)
          have x0 := hbi.cell (i := 0) (v := .int .i64 x.lo) rfl
          have x1 := hbi.cell (i := 1) (v := .int .i64 x.hi) rfl
          have lgi := hbi.lt
          have hlj : (acc ++ (B.take j).map (cap x)).length ≤ 1000000 := by rw [List.length_append, List.length_map, List.length_take]; omega
          have HOi := hid hOi
          have HBi := hid hbi
          clear hEi hOi hcell2 q3 hbi
          generalize B[j] = y at y0 y1 HSj
          have HAcc : Hid (acc ++ (B.take (j + 1)).map (cap x) = (acc ++ (B.take j).map (cap x)) ++ [cap x y]) := by unfold Hid; rw [HSj.out, List.append_assoc]
          generalize acc ++ (B.take j).map (cap x) = ac at HOi hlj HAcc
          have hE5 := Ext.alloc wr (.cells #[.int .i64 y.lo, .int .i64 y.hi] 32)
          obtain ⟨v', w4, hrun, ho4, hk4, hbl⟩ := app_one (P := Tryz.prog) rng_elem rng_coded (ownsRow_ext HOi.out hE5) (HEi.out.trans hE5).size (cap x y) hlj (by omega)
          simp only [Rng.cells, cap] at hrun
          rw [show (wr.alloc (.cells #[.int .i64 y.lo, .int .i64 y.hi] 32)).heap.size = wr.heap.size + 1 by simp] at hrun
          have HO4 := hid ho4
          have HE4 : Hid (Ext w2 w4) := hk4.toExt (HEi.out.trans hE5) (fun q hq => (row_block HOi.out q hq).1)
          have HB4 := hid ((HBi.out.ext hE5).keep hk4 (fun h => hne.out ga h rfl))
          have HN4 : Hid (∀ q, v'.ownBlock = some q → q ≠ ga) := fun q hq => by
            rcases hbl with h | h
            · exact hne.out q (by rw [← h]; exact hq)
            · have := h q hq; have := hE5.size; omega
          clear ho4 hk4 hbl hE5 HB0 HOa HEw HNe HSj
          go_wp2_with (at_builtin; refine wpList_app rfl (.tmp 25) (.tmp 37) _ _ rfl rfl rfl hrun ?_)
          go_roundw
          case rel => exact ⟨j + 1, by omega, by go_num, HE4.out, HB4.out, HN4, by rw [HAcc.out]; exact HO4.out⟩
          case measure => simp [intOf]; omega
        · obtain rfl : j = B.length := by omega
          rw [List.take_length] at hOi
          have HOi := hid hOi
          clear hEi hOi hbi hne q3 HB0 HOa HEw HNe
          go_wp2_with fail
          go_roundw
          case rel => exact ⟨k + 1, by omega, by go_num, HEi.out, by rw [HS.out]; exact HOi.out⟩
          case measure => simp [intOf]; omega
    · obtain rfl : k = A.length := by omega
      rw [List.take_length] at hO
      have HN := HNo wr u5 (sl_of_row (rng_coded.sizes _) (by rw [List.length_map]; exact hO))
      clear hE hO HNo HNa HNb p3 q3 HLen
      go_wp2_with (go_at_call 38; refine (HN.out).mono ?_; rintro e w5 ⟨v5, rfl, hv5, hx5⟩; have HV5 := hid hv5; have HX5 := hid hx5; clear hv5 hx5)
      go_ret
      exact ⟨_, rfl, ⟨HV5.out.1, HV5.out.2.early (HX2.out.trans HE.out)⟩, HX2.out.trans (HE.out.trans HX5.out)⟩
end Go.Proofs.YtgkdiknmjgpgmaaGreatDoor.Sz
