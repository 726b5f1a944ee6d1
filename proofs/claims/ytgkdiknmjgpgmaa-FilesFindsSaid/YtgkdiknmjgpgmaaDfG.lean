/-
  Package diff: Turns, Right.
-/
import Derived.Test.YtgkdiknmjgpgmaaDfF
namespace Go.Proofs.Ytgkdiknmjgpgmaa
set_option linter.unusedSimpArgs false
set_option linter.unusedVariables false
open Go.RowKit Go.Sort

theorem sumT_snoc_len (a b : List LeafI) (its : List Ver) (k : Nat) : (sumT a b (its.take k)).length ≤ 2 * k := by
  have := sumT_len a b (its.take k)
  rw [List.length_take] at this
  omega
set_option maxRecDepth 100000 in
set_option maxHeartbeats 2000000 in
theorem dTurns_c (w : World) (u v : Value) (a b : List LeafI) (h : Sl w 5 u (a.map LeafI.cells)) (k : Sl w 5 v (b.map LeafI.cells)) (ha : a.length ≤ 1000) (hb : b.length ≤ 1000) : Calls Try.prog 27 #[u, v] w (RetQ (RowAt TurnI.cells 4 (allTurns a b)) w) := by
  have HT : Hid (∀ W it, Ext w W → Calls Try.prog 59 #[u, v, it.val] W (RetQ (fun v' w' => Sl w' 4 v' ((turnsK (findK a it) (findK b it)).map TurnI.cells)) W)) := fun W it hW => dturns_c W u v a b it (h.ext hW) (k.ext hW)
  have hsrc := src_of_sl Try.underlying31 leaf_coded k (Ext.refl w)
  obtain ⟨A, c, rfl, h1, h2, _⟩ := sl_get h
  obtain ⟨A', c', rfl, k1, k2, _⟩ := sl_get k
  obtain ⟨v1, w1, hrun, hs1, hx1⟩ := app_full (P := Try.prog) (t := 31) (ty := 31) leaf_elem leaf_coded h hsrc (by omega) (by omega) (by omega)
  obtain ⟨L, hL⟩ : ∃ L, L = a ++ b := ⟨_, rfl⟩
  have hll : L.length ≤ 2000 := by rw [hL, List.length_append]; omega
  rw [← hL] at hs1
  obtain ⟨A1, c1, rfl, q1, q2, q3⟩ := sl_get hs1
  have HX1 := hid hx1
  have HAll : Hid (allTurns a b = sumT a b (itemsL L)) := by rw [hL]; rfl
  have HLen := hid (itemsL_len L)
  unfold maxLen at h2 k2 q2
  clear h k hsrc hs1 hx1 hL
  go_enter Try.func27, Try.ntmps27
  go_wp2_with (at_builtin; refine wpList_app rfl (.tmp 16) (.tmp 17) _ _ rfl rfl rfl hrun ?_)
  go_loopw [5, 20] (fun v i wr => ∃ k : Nat, k ≤ L.length ∧ i = .int .i64 k ∧ Ext w1 wr ∧ (k = 0 → v = .slice none 0 0) ∧ wr.ownsRow w1.heap.size 26 2 v ((L.take k).map (·.item)).length (((L.take k).map (·.item)).map Ver.cells).flatten) (fun _ i _ => L.length - (intOf i).toNat)
  case atStart => exact ⟨0, by omega, rfl, Ext.refl _, (fun _ => rfl), ownsRow_nil _ _ _ _⟩
  case round =>
    obtain ⟨k, hk, rfl, hE, hz, hO⟩ := hrel
    have HE := hid hE
    have HO := hid hO
    have HZ := hid hz
    by_cases hlt : k < L.length
    · obtain ⟨b', o, rfl, lb, hcell⟩ := q3 (by omega)
      have c0 := hE.cell (hcell k hlt 0 _ rfl)
      have c1_ := hE.cell (hcell k hlt 1 _ rfl)
      have c2 := hE.cell (hcell k hlt 2 _ rfl)
      have c3 := hE.cell (hcell k hlt 3 _ rfl)
      have c4 := hE.cell (hcell k hlt 4 _ rfl)
      rw [Nat.add_zero] at c0
      have lbr := Nat.lt_of_lt_of_le lb hE.size
      have HTk : Hid ((L.take (k + 1)).map (·.item) = (L.take k).map (·.item) ++ [L[k].item]) := by unfold Hid; rw [List.take_succ_eq_append_getElem hlt, List.map_append]; rfl
      have HLn : Hid (((L.take k).map (·.item)).length ≤ 2000) := by unfold Hid; rw [List.length_map, List.length_take]; omega
      clear hE hcell q3 hz hO
      generalize L[k] = z at c0 c1_ c2 c3 c4 HTk
      generalize (L.take k).map (·.item) = acc at HO HTk HLn
      have hE2 := HE.out.alloc' (.cells #[.string z.name, .string z.path, .int .i64 z.item.by_, .int .i64 z.item.n, .string z.d] 35)
      obtain ⟨v', w4, hrun4, ho4, hk4, _⟩ := app_one (P := Try.prog) ver_elem ver_coded (ownsRow_ext HO.out (Ext.alloc wr (.cells #[.string z.name, .string z.path, .int .i64 z.item.by_, .int .i64 z.item.n, .string z.d] 35))) hE2.size z.item (by have := HLn.out; omega) (by omega)
      simp only [Ver.cells, World.size_alloc] at hrun4
      have HE4 := hid (hk4.toExt hE2 (fun q hq => (row_block HO.out q hq).1))
      have HO4 : Hid (w4.ownsRow w1.heap.size 26 2 v' ((L.take (k + 1)).map (·.item)).length (((L.take (k + 1)).map (·.item)).map Ver.cells).flatten) := by unfold Hid; rw [HTk.out]; exact ho4
      clear hE2 ho4 hk4 HTk HO HE HZ HLn
      go_wp2_with (at_builtin; refine wpList_app rfl (.tmp 24) (.tmp 27) _ _ rfl rfl rfl hrun4 ?_)
      go_roundw
      case rel => exact ⟨k + 1, by omega, by go_num, HE4.out, (fun h => by omega), HO4.out⟩
      case measure => simp [intOf]; omega
    · obtain rfl : k = L.length := by omega
      rw [List.take_length] at hO
      have hrow := RowAt.of_row ver_coded hO (fun h0 => hz (by rwa [List.length_map] at h0))
      have HV := hid (vsort_c wr _ _ hrow.1 (by rw [List.length_map]; omega))
      have HE := hid (HX1.out.trans hE)
      clear hE q3 hz hO hrow HX1 HO HZ
      go_wp2_with (go_at_call 58; refine (HV.out).mono ?_; rintro e w2 ⟨vi, rfl, hvi, hx2⟩; obtain ⟨A2, c2, rfl, p1, p2, p3⟩ := sl_get hvi.1; have HE2 := hid (HE.out.trans hx2); clear hvi hx2)
      have HX0 := hid HE2.out
      obtain ⟨its, hits⟩ : ∃ its, its = itemsL L := ⟨_, rfl⟩
      have hits' : setL Ver.lt (L.map (·.item)) = its := hits.symm
      rw [hits'] at p1 p3
      rw [hits'] at *
      rw [← hits] at HAll HLen
      have hle := HLen.out
      clear hits hits'
      unfold maxLen at p2
      go_loopw [8, 33] (fun v i wi => ∃ k : Nat, k ≤ its.length ∧ i = .int .i64 k ∧ Ext w2 wi ∧ ((sumT a b (its.take k)).length = 0 → v = .slice none 0 0) ∧ wi.ownsRow w2.heap.size 58 4 v (sumT a b (its.take k)).length ((sumT a b (its.take k)).map TurnI.cells).flatten) (fun _ i _ => its.length - (intOf i).toNat)
      case atStart => exact ⟨0, by omega, rfl, Ext.refl _, (fun _ => rfl), ownsRow_nil _ _ _ _⟩
      case round =>
        obtain ⟨k, hk, rfl, hE3, hz, hO⟩ := hrel
        have HE3 := hid hE3
        have HO := hid hO
        have HZ := hid hz
        by_cases hlt : k < its.length
        · obtain ⟨b', o, rfl, lb, hcell⟩ := p3 (by omega)
          have c0 := hE3.cell (hcell k hlt 0 _ rfl)
          have c1_ := hE3.cell (hcell k hlt 1 _ rfl)
          rw [Nat.add_zero] at c0
          have lbr := Nat.lt_of_lt_of_le lb hE3.size
          have HS := hid (sumT_take a b its k hlt)
          have HLn := hid (sumT_snoc_len a b its k)
          have HTk := fun W (hW : Ext w W) => hid (HT.out W its[k] hW)
          have HTl := hid (turnsK_len (findK a its[k]) (findK b its[k]))
          clear hE3 hcell p3 hz hO
          generalize its[k] = it at c0 c1_ HS HTk HTl
          generalize turnsK (findK a it) (findK b it) = T at HS HTk HTl
          generalize sumT a b (its.take k) = acc at HO HS HLn HZ
          unfold Ver.val at HTk
          go_wp2_with (first
            | (at_builtin; obtain ⟨v', w6, hrun6, ho6, hk6, _, hz6⟩ := app_row (P := Try.prog) (ty := 49) turn_elem (ownsRow_ext HO.out HW5.out) (Nat.le_trans HE3.out.size HW5.out.size) (src_of_sl Try.underlying49 turn_coded HVT.out (Ext.refl w5)) (by have := HLn.out; have := HTl.out; unfold maxLen; omega) (by have := HLn.out; have := HTl.out; omega); have HE6 := hid (hk6.toExt (HE3.out.trans HW5.out) (fun q hq => (row_block HO.out q hq).1)); have HO6 := hid ho6; have HZ6 := hid hz6; clear ho6 hk6 hz6; refine wpList_app rfl (.tmp 37) (.tmp 41) _ _ rfl rfl rfl hrun6 ?_)
            | (go_at_call 59; refine ((HTk _ (HX0.out.trans (HE3.out.alloc' _))).out).mono ?_; rintro e w5 ⟨vt, rfl, hvt, hx5⟩; have HVT := hid hvt; have HW5 := hid ((Ext.alloc _ _).trans hx5); clear hvt hx5 HTk))
          have HO7 : Hid (w6.ownsRow w2.heap.size 58 4 v' (sumT a b (its.take (k + 1))).length ((sumT a b (its.take (k + 1))).map TurnI.cells).flatten) := by
            unfold Hid
            rw [HS.out]
            simpa using HO6.out
          go_roundw
          case rel => exact ⟨k + 1, by omega, by go_num, HE6.out, (fun h => by rw [HS.out, List.length_append] at h; exact HZ6.out h (HZ.out (by omega))), HO7.out⟩
          case measure => simp [intOf]; omega
        · obtain rfl : k = its.length := by omega
          rw [List.take_length] at hO
          have hrow := RowAt.of_row turn_coded hO (fun h0 => hz (by rw [List.take_length]; exact h0))
          have HR := hid hrow
          clear hE3 p3 hz hO hrow HO HZ HT
          go_wp2_with fail
          go_ret
          exact ⟨_, rfl, by rw [HAll.out]; exact HR.out, HX0.out.trans HE3.out⟩
end Go.Proofs.Ytgkdiknmjgpgmaa
