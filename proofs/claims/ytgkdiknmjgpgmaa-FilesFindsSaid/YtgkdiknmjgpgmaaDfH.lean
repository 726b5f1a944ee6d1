/-
  The document's Turns.
-/
import Derived.Test.YtgkdiknmjgpgmaaDfG
import Derived.Test.YtgkdiknmjgpgmaaAwT
namespace Go.Proofs.Ytgkdiknmjgpgmaa
set_option linter.unusedSimpArgs false
set_option linter.unusedVariables false
open Go.RowKit Go.Sort

theorem itemZ_some {l : List LeafI} {it : Ver} {x : LeafI} (h : findK l it = some x) : ∃ j, itemZ l it = ((j : Nat) : Int) ∧ ∃ h : j < l.length, l[j] = x := by
  unfold findK at h
  obtain ⟨hlt, rfl⟩ := List.getElem?_eq_some_iff.1 h
  exact ⟨placeK it l, if_pos hlt, hlt, rfl⟩
theorem itemZ_none {l : List LeafI} {it : Ver} (h : findK l it = none) : itemZ l it = -1 := by
  unfold findK at h
  have := List.getElem?_eq_none_iff.1 h
  exact if_neg (by omega)

theorem row_snoc {α : Type} {code : α → List Value} {sz : Nat} {acc : List α} {x : α} {w : World} {B : Nat} {e : TypeId} {v : Value} (h : w.ownsRow B e sz v (acc.length + 1) ((acc.map code).flatten ++ code x)) : w.ownsRow B e sz v (acc ++ [x]).length ((acc ++ [x]).map code).flatten := by simpa using h
set_option maxRecDepth 100000 in
set_option maxHeartbeats 4000000 in
theorem rTurns_c (w : World) (u v : Value) (a b : List LeafI) (h : Sl w 5 u (a.map LeafI.cells)) (k : Sl w 5 v (b.map LeafI.cells)) (ha : a.length ≤ 1000) (hb : b.length ≤ 1000) : Calls Try.prog 33 #[u, v] w (RetQ (RowAt TurnI.cells 4 (allTurns a b)) w) := by
  have HSA := hid h
  have HSB := hid k
  obtain ⟨A, c, rfl, h1, h2, h3⟩ := sl_get h
  obtain ⟨A', c', rfl, k1, k2, k3⟩ := sl_get k
  have HA := hid h3
  have HB := hid k3
  unfold maxLen at h2 k2
  clear h k
  go_enter Try.func33, Try.ntmps33
  go_wp2_with fail
  go_loopw [5, 6] (fun v i wr => ∃ (k : Nat) (ov : Value), k ≤ a.length ∧ i = .int .i64 k ∧ ov = v ∧ Ext w wr ∧ RowAt Ver.cells 2 (setL Ver.lt ((a.take k).map (·.item))) ov wr) (fun _ i _ => a.length - (intOf i).toNat)
  case atStart => exact ⟨0, _, by omega, rfl, rfl, Ext.refl _, RowAt.nil _⟩
  case round =>
    obtain ⟨k, v, hk, rfl, rfl, hE, hR⟩ := hrel
    have HE := hid hE
    by_cases hlt : k < a.length
    · obtain ⟨b', o, rfl, lb, hcell⟩ := h3 (by omega)
      have c2 := hE.cell (hcell k hlt 2 _ rfl)
      have c3 := hE.cell (hcell k hlt 3 _ rfl)
      have lbr := Nat.lt_of_lt_of_le lb hE.size
      have hT : setL Ver.lt ((a.take (k + 1)).map (·.item)) = insL Ver.lt a[k].item (setL Ver.lt ((a.take k).map (·.item))) := by rw [List.take_succ_eq_append_getElem hlt, List.map_append]; exact setL_snoc _ _
      have hle := setL_length Ver.strict ((a.take k).map (·.item))
      rw [List.length_map, List.length_take] at hle
      have HP := hid (rput_c wr v _ a[k].item hR (by omega))
      rw [← hT] at HP
      clear hE hcell h3 hR hT hle
      generalize a[k] = z at c2 c3 HP
      unfold Ver.val at HP
      go_wp2_with (go_at_call 31; refine (HP.out).mono ?_; rintro e w3 ⟨v3, rfl, hv3, hx3⟩; have HV3 := hid hv3; have HX3 := hid hx3; clear hv3 hx3)
      exact ⟨⟨k + 1, _, by omega, by go_num, rfl, HE.out.trans HX3.out, HV3.out⟩, by simp [intOf]; omega⟩
    · obtain rfl : k = a.length := by omega
      rw [List.take_length] at hR
      have HR := hid hR
      clear hE h3 hR
      go_wp2_with fail
      go_loopw [5, 7] (fun v i WI => ∃ (k : Nat) (ov : Value), k ≤ b.length ∧ i = .int .i64 k ∧ ov = v ∧ Ext w WI ∧ RowAt Ver.cells 2 (setL Ver.lt ((a ++ b.take k).map (·.item))) ov WI) (fun _ i _ => b.length - (intOf i).toNat)
      case atStart => exact ⟨0, _, by omega, rfl, rfl, HE.out, by rw [List.take_zero, List.append_nil]; exact HR.out⟩
      case round =>
        obtain ⟨k, v, hk, rfl, rfl, hE, hR2⟩ := hrel
        clear HR HE
        have HE := hid hE
        by_cases hlt : k < b.length
        · obtain ⟨b', o, rfl, lb, hcell⟩ := k3 (by omega)
          have c2 := hE.cell (hcell k hlt 2 _ rfl)
          have c3 := hE.cell (hcell k hlt 3 _ rfl)
          have lbr := Nat.lt_of_lt_of_le lb hE.size
          have hT : setL Ver.lt ((a ++ b.take (k + 1)).map (·.item)) = insL Ver.lt b[k].item (setL Ver.lt ((a ++ b.take k).map (·.item))) := by rw [List.take_succ_eq_append_getElem hlt, ← List.append_assoc, List.map_append]; exact setL_snoc _ _
          have hle := setL_length Ver.strict ((a ++ b.take k).map (·.item))
          rw [List.length_map, List.length_append, List.length_take] at hle
          have HP := hid (rput_c wr v _ b[k].item hR2 (by omega))
          rw [← hT] at HP
          clear hE hcell k3 hR2 hT hle
          generalize b[k] = z at c2 c3 HP
          unfold Ver.val at HP
          go_wp2_with (go_at_call 31; refine (HP.out).mono ?_; rintro e w3 ⟨v3, rfl, hv3, hx3⟩; have HV3 := hid hv3; have HX3 := hid hx3; clear hv3 hx3)
          exact ⟨⟨k + 1, _, by omega, by go_num, rfl, HE.out.trans HX3.out, HV3.out⟩, by simp [intOf]; omega⟩
        · obtain rfl : k = b.length := by omega
          rw [List.take_length] at hR2
          obtain ⟨its, hits⟩ : ∃ its, its = itemsL (a ++ b) := ⟨_, rfl⟩
          have hR3 : RowAt Ver.cells 2 its v wr := by rw [hits]; exact hR2
          have HAll : Hid (allTurns a b = sumT a b its) := by rw [hits]; rfl
          have hle := itemsL_len (a ++ b)
          rw [← hits, List.length_append] at hle
          have HMem : Hid (∀ it ∈ its, findK b it = none → ∃ x, findK a it = some x) := fun it hit hn => by
            rw [hits] at hit
            obtain ⟨x, hx, e⟩ := (mem_itemsL _ _).1 hit
            rcases List.mem_append.1 hx with hx | hx
            · exact ⟨_, List.getElem?_eq_getElem (placeK_lt.2 ⟨x, hx, e⟩)⟩
            · exact absurd e (findK_none hn x hx)
          obtain ⟨A2, c2, rfl, p1, p2, p3⟩ := sl_get hR3.1
          unfold maxLen at p2
          clear hE k3 hR2 hR3 hits
          go_wp2_with fail
          go_loopw [8, 9] (fun v i WQ => ∃ k : Nat, k ≤ its.length ∧ i = .int .i64 k ∧ Ext wr WQ ∧ ((sumT a b (its.take k)).length = 0 → v = .slice none 0 0) ∧ WQ.ownsRow wr.heap.size 58 4 v (sumT a b (its.take k)).length ((sumT a b (its.take k)).map TurnI.cells).flatten) (fun _ i _ => its.length - (intOf i).toNat)
          case atStart => exact ⟨0, by omega, rfl, Ext.refl _, (fun _ => rfl), ownsRow_nil _ _ _ _⟩
          case round =>
            obtain ⟨k, hk, rfl, hE3, hz, hO⟩ := hrel
            have HE3 := hid hE3
            have HO := hid hO
            have HZ := hid hz
            by_cases hlt : k < its.length
            · obtain ⟨b', o, rfl, lb, hcell⟩ := p3 (by omega)
              have c0 := hE3.cell (hcell k hlt 0 _ rfl)
              have c1_ := hE3.cell (hcell k hlt 1 _ rfl)
              rw [Nat.add_zero] at c0
              have lbr := Nat.lt_of_lt_of_le lb hE3.size
              have HS := hid (sumT_take a b its k hlt)
              have HLn := hid (sumT_snoc_len a b its k)
              have HIa : Hid (∀ W, Ext wr W → Calls Try.prog 60 #[.slice A a.length c, its[k].val] W (Ret (.int .i64 (itemZ a its[k])) W)) := fun W hW => item40_c W _ a its[k] (HSA.out.ext (HE.out.trans (hE3.trans hW)))
              have HIb : Hid (∀ W, Ext wr W → Calls Try.prog 60 #[.slice A' b.length c', its[k].val] W (Ret (.int .i64 (itemZ b its[k])) W)) := fun W hW => item40_c W _ b its[k] (HSB.out.ext (HE.out.trans (hE3.trans hW)))
              have hmem := HMem.out its[k] (List.getElem_mem hlt)
              have HW := hid (HE.out.trans hE3)
              clear hE3 hcell p3 hz hO HMem
              generalize its[k] = it at c0 c1_ HS HIa HIb hmem
              generalize sumT a b (its.take k) = acc at HO HS HLn HZ
              unfold Ver.val at HIa HIb
              cases hfb : findK b it with
              | none =>
                obtain ⟨X, hfa⟩ := hmem hfb
                obtain ⟨x, hx, hxl, hX⟩ := itemZ_some hfa
                rw [itemZ_none hfb] at HIb
                rw [hx] at HIa
                rw [hfa, hfb] at HS
                simp only [turnsK] at HS
                obtain ⟨ba, oa, rfl, lba, hca⟩ := HA.out (by omega)
                have HA0 := hid (hca x hxl 0 _ rfl)
                rw [hX, Nat.add_zero] at HA0
                have HLa := hid lba
                clear hca hmem hfa hfb hx hX lba HA HB
                go_wp2_with (first
                  | (at_builtin; obtain ⟨v', w6, hrun6, ho6, hk6, _⟩ := app_one (P := Try.prog) turn_elem turn_coded (ownsRow_ext HO.out HX5.out) (Nat.le_trans HE3.out.size HX5.out.size) ⟨2, X.name, ⟨#[]⟩, ⟨#[]⟩⟩ (by have := HLn.out; omega) (by omega); simp only [TurnI.cells] at hrun6; have HE6 := hid (hk6.toExt (HE3.out.trans HX5.out) (fun q hq => (row_block HO.out q hq).1)); have HO6 := hid ho6; clear ho6 hk6; refine wpList_app rfl (.tmp 58) (.tmp 65) _ _ rfl rfl rfl hrun6 ?_)
                  | (go_at_call 60; refine (HIb.out _ HX4.out).mono ?_; rintro e w5 ⟨rfl, hx5⟩; have HX5 := hid (HX4.out.trans hx5); have f0 := (HW.out.trans HX5.out).cell HA0.out; have lf := Nat.lt_of_lt_of_le HLa.out (HW.out.trans HX5.out).size; clear hx5 HX4 HIb d0 d1 ld)
                  | (go_at_call 60; refine (HIa.out _ (Ext.refl _)).mono ?_; rintro e w4 ⟨rfl, hx4⟩; have d0 := hx4.cell c0; have d1 := hx4.cell c1_; have ld := Nat.lt_of_lt_of_le lbr hx4.size; have HX4 := hid hx4; clear hx4 HIa c0 c1_ lbr))
                go_roundw
                case rel => exact ⟨k + 1, by omega, by go_num, HE6.out, (fun h => by rw [HS.out] at h; simp [List.length_append] at h), by rw [HS.out]; exact HO6.out⟩
                case measure => simp [intOf]; omega
              | some Y =>
                obtain ⟨y, hy, hyl, hY⟩ := itemZ_some hfb
                rw [hy] at HIb
                obtain ⟨bb, ob, rfl, lbb, hcb⟩ := HB.out (by omega)
                have HB0 := hid (hcb y hyl 0 _ rfl)
                have HB4 := hid (hcb y hyl 4 _ rfl)
                rw [hY, Nat.add_zero] at HB0
                rw [hY] at HB4
                have HLb := hid lbb
                clear hcb hmem hY lbb HB hy
                cases hfa : findK a it with
                | none =>
                  rw [itemZ_none hfa] at HIa
                  rw [hfa, hfb] at HS
                  simp only [turnsK] at HS
                  clear hfa hfb HA
                  go_wp2_with (first
                    
                    | (go_at_call 60; refine (HIb.out _ HX4.out).mono ?_; rintro e w5 ⟨rfl, hx5⟩; have HX5 := hid (HX4.out.trans hx5); have g0 := (HW.out.trans HX5.out).cell HB0.out; have g4 := (HW.out.trans HX5.out).cell HB4.out; have lg := Nat.lt_of_lt_of_le HLb.out (HW.out.trans HX5.out).size; clear hx5 HX4 HIb d0 d1 ld)
                    | (go_at_call 60; refine (HIa.out _ (Ext.refl _)).mono ?_; rintro e w4 ⟨rfl, hx4⟩; have d0 := hx4.cell c0; have d1 := hx4.cell c1_; have ld := Nat.lt_of_lt_of_le lbr hx4.size; have HX4 := hid hx4; clear hx4 HIa c0 c1_ lbr))
                  refine wp_region_two (pre := ?pre1) (z1 := ?z11) (z2 := ?z21) ?hpre1 ?hz11 ?hz21 (by kernel_rfl) (by kernel_rfl) (by kernel_rfl) (by kernel_rfl) (by kernel_rfl) ?_
                  case hpre1 => (simp only [List.dropLast_cons_cons, List.dropLast_singleton]; first | done | exact rfl)
                  case hz11 => (simp only [List.dropLast_cons_cons, List.dropLast_singleton, List.getLast?_cons_cons, List.getLast?_singleton]; first | done | exact rfl)
                  case hz21 => (simp only [List.getLast?_cons_cons, List.getLast?_singleton]; first | done | exact rfl)
                  repeat (first
                    | (refine AWq.val rfl rfl rfl rfl (fun K hK => ?_); go_big_quiet_op; refine hK _ ?_; clear hK K)
                    | (refine AWq.skip rfl rfl rfl ?_; simp only [Act.put, List.setIfInBounds_toArray, List.set_cons_succ, List.set_cons_zero])
                    | (refine AWq.opV (NewSl 58 #[.int .i64 1, .string Y.name, .string ⟨#[]⟩, .string Y.d] 1 1) (NewSl.steady _ _ _ _) rfl rfl rfl rfl (fun wc hc => ?_) ?_; (· (have hc' := hc.rule; clear hc; go_simp; dsimp only [Gives]; exact ⟨⟨_, rfl, Blk.new _ _ _⟩, Ext.alloc _ _⟩))))
                  refine AWq.two rfl rfl rfl (fun w6 x6 => ?_)
                  simp only [closeAny, Act.put, List.setIfInBounds_toArray, List.set_cons_succ, List.set_cons_zero]
                  intro u hu
                  obtain ⟨v', wn, hrun, ho, hk, _, _⟩ := app_row (P := Try.prog) (ty := 49) turn_elem (ownsRow_ext (ownsRow_ext HO.out HX5.out) x6) (Nat.le_trans (Nat.le_trans HE3.out.size HX5.out.size) x6.size) (src_new Try.underlying49 hu (sz := 4) rfl (turn_coded.one ⟨1, Y.name, ⟨#[]⟩, Y.d⟩)) (by have := HLn.out; unfold maxLen; (try simp only [List.length_append, List.length_cons, List.length_nil]); omega) (by have := HLn.out; (try simp only [List.length_append, List.length_cons, List.length_nil]); omega)
                  have HE6 := hid (hk.toExt ((HE3.out.trans HX5.out).trans x6) (fun q hq => (row_block HO.out q hq).1))
                  have HO6 := hid ho
                  clear hu ho hk x6 HO HZ HX5
                  go_wp2_with (at_builtin; refine wpList_app rfl (.tmp 69) (.tmp 81) _ _ rfl rfl rfl hrun ?_)
                  go_roundw
                  case rel => exact ⟨k + 1, by omega, by go_num, HE6.out, (fun h => by rw [HS.out] at h; simp [List.length_append] at h), by rw [HS.out]; exact (by simpa [TurnI.cells] using HO6.out)⟩
                  case measure => simp [intOf]; omega
                | some X =>
                  obtain ⟨x, hx, hxl, hX⟩ := itemZ_some hfa
                  rw [hx] at HIa
                  obtain ⟨ba, oa, rfl, lba, hca⟩ := HA.out (by omega)
                  have HA0 := hid (hca x hxl 0 _ rfl)
                  have HA4 := hid (hca x hxl 4 _ rfl)
                  rw [hX, Nat.add_zero] at HA0
                  rw [hX] at HA4
                  have HLa := hid lba
                  rw [hfa, hfb] at HS
                  simp only [turnsK] at HS
                  clear hca hx hX lba HA hfa hfb
                  go_wp2_with (first
                    
                    | (go_at_call 60; refine (HIb.out _ HX4.out).mono ?_; rintro e w5 ⟨rfl, hx5⟩; have HX5 := hid (HX4.out.trans hx5); have f0 := (HW.out.trans HX5.out).cell HA0.out; have f4 := (HW.out.trans HX5.out).cell HA4.out; have lf := Nat.lt_of_lt_of_le HLa.out (HW.out.trans HX5.out).size; have g0 := (HW.out.trans HX5.out).cell HB0.out; have g4 := (HW.out.trans HX5.out).cell HB4.out; have lg := Nat.lt_of_lt_of_le HLb.out (HW.out.trans HX5.out).size; clear hx5 HX4 HIb d0 d1 ld)
                    | (go_at_call 60; refine (HIa.out _ (Ext.refl _)).mono ?_; rintro e w4 ⟨rfl, hx4⟩; have d0 := hx4.cell c0; have d1 := hx4.cell c1_; have ld := Nat.lt_of_lt_of_le lbr hx4.size; have HX4 := hid hx4; clear hx4 HIa c0 c1_ lbr))
                  by_cases hn : X.name = Y.name
                  · have dn : (X.name.toList == Y.name.toList) = true := by rw [hn]; simp
                    refine wp_region_any_order (by kernel_rfl) (by kernel_rfl) (by kernel_rfl) ?_
                    repeat (first
                      | (refine AWq.val rfl rfl rfl rfl (fun K hK => ?_); go_big_quiet_op; refine hK _ ?_; clear hK K)
                      | (refine AWq.skip rfl rfl rfl ?_; simp only [Act.put, List.setIfInBounds_toArray, List.set_cons_succ, List.set_cons_zero]))
                    refine AWq.done rfl rfl rfl (fun w6 x6 => ?_)
                    simp only [closeAny, Act.put, List.setIfInBounds_toArray, List.set_cons_succ, List.set_cons_zero]
                    clear f0 f4 lf g0 g4 lg
                    have f0 := (HW.out.trans (HX5.out.trans x6)).cell HA0.out
                    have f4 := (HW.out.trans (HX5.out.trans x6)).cell HA4.out
                    have lf := Nat.lt_of_lt_of_le HLa.out (HW.out.trans (HX5.out.trans x6)).size
                    have g0 := (HW.out.trans (HX5.out.trans x6)).cell HB0.out
                    have g4 := (HW.out.trans (HX5.out.trans x6)).cell HB4.out
                    have lg := Nat.lt_of_lt_of_le HLb.out (HW.out.trans (HX5.out.trans x6)).size
                    rw [if_pos hn, List.nil_append] at HS
                    have HE7 := hid (HE3.out.trans (HX5.out.trans x6))
                    have HO7 := hid (ownsRow_ext HO.out (HX5.out.trans x6))
                    have hz7 := hid HZ.out
                    clear hn x6 HO HX5
                    go_wp2_with fail
                    by_cases hd : X.d = Y.d
                    · have dd : (X.d.toList == Y.d.toList) = true := by rw [hd]; simp
                      refine wp_region_any_order (by kernel_rfl) (by kernel_rfl) (by kernel_rfl) ?_
                      repeat (first
                        | (refine AWq.val rfl rfl rfl rfl (fun K hK => ?_); go_big_quiet_op; refine hK _ ?_; clear hK K)
                        | (refine AWq.skip rfl rfl rfl ?_; simp only [Act.put, List.setIfInBounds_toArray, List.set_cons_succ, List.set_cons_zero]))
                      refine AWq.done rfl rfl rfl (fun w8 x8 => ?_)
                      simp only [closeAny, Act.put, List.setIfInBounds_toArray, List.set_cons_succ, List.set_cons_zero]
                      clear f0 f4 lf g0 g4 lg
                      have f0 := ((HE.out.trans HE7.out).trans x8).cell HA0.out
                      have f4 := ((HE.out.trans HE7.out).trans x8).cell HA4.out
                      have lf := Nat.lt_of_lt_of_le HLa.out ((HE.out.trans HE7.out).trans x8).size
                      have g0 := ((HE.out.trans HE7.out).trans x8).cell HB0.out
                      have g4 := ((HE.out.trans HE7.out).trans x8).cell HB4.out
                      have lg := Nat.lt_of_lt_of_le HLb.out ((HE.out.trans HE7.out).trans x8).size
                      rw [if_pos hd, List.append_nil] at HS
                      have HE8 := hid (HE7.out.trans x8)
                      have HO8 := hid (ownsRow_ext HO7.out x8)
                      clear hd x8 HO7 HE7
                      go_wp2_with fail
                      go_roundw
                      case rel => exact ⟨k + 1, by omega, by go_num, HE8.out, (fun h => by rw [HS.out] at h; exact hz7.out h), by rw [HS.out]; exact HO8.out⟩
                      case measure => simp [intOf]; omega
                    · have dd : (X.d.toList == Y.d.toList) = false := by rw [beq_toList]; simp [hd]
                      refine wp_region_any_order (by kernel_rfl) (by kernel_rfl) (by kernel_rfl) ?_
                      repeat (first
                        | (refine AWq.val rfl rfl rfl rfl (fun K hK => ?_); go_big_quiet_op; refine hK _ ?_; clear hK K)
                        | (refine AWq.skip rfl rfl rfl ?_; simp only [Act.put, List.setIfInBounds_toArray, List.set_cons_succ, List.set_cons_zero]))
                      refine AWq.done rfl rfl rfl (fun w8 x8 => ?_)
                      simp only [closeAny, Act.put, List.setIfInBounds_toArray, List.set_cons_succ, List.set_cons_zero]
                      clear f0 f4 lf g0 g4 lg
                      have f0 := ((HE.out.trans HE7.out).trans x8).cell HA0.out
                      have f4 := ((HE.out.trans HE7.out).trans x8).cell HA4.out
                      have lf := Nat.lt_of_lt_of_le HLa.out ((HE.out.trans HE7.out).trans x8).size
                      have g0 := ((HE.out.trans HE7.out).trans x8).cell HB0.out
                      have g4 := ((HE.out.trans HE7.out).trans x8).cell HB4.out
                      have lg := Nat.lt_of_lt_of_le HLb.out ((HE.out.trans HE7.out).trans x8).size
                      rw [if_neg hd] at HS
                      have HE8 := hid (HE7.out.trans x8)
                      have HO8 := hid (ownsRow_ext HO7.out x8)
                      clear hd x8 HO7 HE7
                      go_wp2_with fail
                      refine wp_region_two (pre := ?pre5) (z1 := ?z15) (z2 := ?z25) ?hpre5 ?hz15 ?hz25 (by kernel_rfl) (by kernel_rfl) (by kernel_rfl) (by kernel_rfl) (by kernel_rfl) ?_
                      case hpre5 => (simp only [List.dropLast_cons_cons, List.dropLast_singleton]; first | done | exact rfl)
                      case hz15 => (simp only [List.dropLast_cons_cons, List.dropLast_singleton, List.getLast?_cons_cons, List.getLast?_singleton]; first | done | exact rfl)
                      case hz25 => (simp only [List.getLast?_cons_cons, List.getLast?_singleton]; first | done | exact rfl)
                      repeat (first
                        | (refine AWq.val rfl rfl rfl rfl (fun K hK => ?_); go_big_quiet_op; refine hK _ ?_; clear hK K)
                        | (refine AWq.skip rfl rfl rfl ?_; simp only [Act.put, List.setIfInBounds_toArray, List.set_cons_succ, List.set_cons_zero])
                        | (refine AWq.opV (NewSl 58 #[.int .i64 3, .string Y.name, .string ⟨#[]⟩, .string Y.d] 1 1) (NewSl.steady _ _ _ _) rfl rfl rfl rfl (fun wc hc => ?_) ?_; (· (have hc' := hc.rule; clear hc; go_simp; dsimp only [Gives]; exact ⟨⟨_, rfl, Blk.new _ _ _⟩, Ext.alloc _ _⟩))))
                      refine AWq.two rfl rfl rfl (fun w9 x9 => ?_)
                      simp only [closeAny, Act.put, List.setIfInBounds_toArray, List.set_cons_succ, List.set_cons_zero]
                      intro u hu
                      obtain ⟨v', wn, hrun, ho, hk, _, _⟩ := app_row (P := Try.prog) (ty := 49) turn_elem (ownsRow_ext HO8.out x9) (Nat.le_trans HE8.out.size x9.size) (src_new Try.underlying49 hu (sz := 4) rfl (turn_coded.one ⟨3, Y.name, ⟨#[]⟩, Y.d⟩)) (by have := HLn.out; unfold maxLen; (try simp only [List.length_append, List.length_cons, List.length_nil]); omega) (by have := HLn.out; (try simp only [List.length_append, List.length_cons, List.length_nil]); omega)
                      have HE6 := hid (hk.toExt (HE8.out.trans x9) (fun q hq => (row_block HO8.out q hq).1))
                      have HO6 := hid ho
                      clear hu ho hk x9 HO8 HE8
                      go_wp2_with (at_builtin; refine wpList_app rfl (.tmp 119) (.tmp 131) _ _ rfl rfl rfl hrun ?_)
                      go_roundw
                      case rel => exact ⟨k + 1, by omega, by go_num, HE6.out, (fun h => by rw [HS.out] at h; simp [List.length_append] at h), by rw [HS.out]; exact (by simpa [TurnI.cells] using HO6.out)⟩
                      case measure => simp [intOf]; omega
                  · have dn : (X.name.toList == Y.name.toList) = false := by rw [beq_toList]; simp [hn]
                    refine wp_region_any_order (by kernel_rfl) (by kernel_rfl) (by kernel_rfl) ?_
                    repeat (first
                      | (refine AWq.val rfl rfl rfl rfl (fun K hK => ?_); go_big_quiet_op; refine hK _ ?_; clear hK K)
                      | (refine AWq.skip rfl rfl rfl ?_; simp only [Act.put, List.setIfInBounds_toArray, List.set_cons_succ, List.set_cons_zero]))
                    refine AWq.done rfl rfl rfl (fun w6 x6 => ?_)
                    simp only [closeAny, Act.put, List.setIfInBounds_toArray, List.set_cons_succ, List.set_cons_zero]
                    clear f0 f4 lf g0 g4 lg
                    have f0 := (HW.out.trans (HX5.out.trans x6)).cell HA0.out
                    have f4 := (HW.out.trans (HX5.out.trans x6)).cell HA4.out
                    have lf := Nat.lt_of_lt_of_le HLa.out (HW.out.trans (HX5.out.trans x6)).size
                    have g0 := (HW.out.trans (HX5.out.trans x6)).cell HB0.out
                    have g4 := (HW.out.trans (HX5.out.trans x6)).cell HB4.out
                    have lg := Nat.lt_of_lt_of_le HLb.out (HW.out.trans (HX5.out.trans x6)).size
                    rw [if_neg hn] at HS
                    have HE7 := hid (HE3.out.trans (HX5.out.trans x6))
                    have HO7 := hid (ownsRow_ext HO.out (HX5.out.trans x6))
                    clear hn x6 HO HX5 HZ
                    go_wp2_with fail
                    refine wp_region_two (pre := ?pre7) (z1 := ?z17) (z2 := ?z27) ?hpre7 ?hz17 ?hz27 (by kernel_rfl) (by kernel_rfl) (by kernel_rfl) (by kernel_rfl) (by kernel_rfl) ?_
                    case hpre7 => (simp only [List.dropLast_cons_cons, List.dropLast_singleton]; first | done | exact rfl)
                    case hz17 => (simp only [List.dropLast_cons_cons, List.dropLast_singleton, List.getLast?_cons_cons, List.getLast?_singleton]; first | done | exact rfl)
                    case hz27 => (simp only [List.getLast?_cons_cons, List.getLast?_singleton]; first | done | exact rfl)
                    repeat (first
                      | (refine AWq.val rfl rfl rfl rfl (fun K hK => ?_); go_big_quiet_op; refine hK _ ?_; clear hK K)
                      | (refine AWq.skip rfl rfl rfl ?_; simp only [Act.put, List.setIfInBounds_toArray, List.set_cons_succ, List.set_cons_zero])
                      | (refine AWq.opV (NewSl 58 #[.int .i64 4, .string Y.name, .string X.name, .string ⟨#[]⟩] 1 1) (NewSl.steady _ _ _ _) rfl rfl rfl rfl (fun wc hc => ?_) ?_; (· (have hc' := hc.rule; clear hc; go_simp; dsimp only [Gives]; exact ⟨⟨_, rfl, Blk.new _ _ _⟩, Ext.alloc _ _⟩))))
                    refine AWq.two rfl rfl rfl (fun w7 x7 => ?_)
                    simp only [closeAny, Act.put, List.setIfInBounds_toArray, List.set_cons_succ, List.set_cons_zero]
                    intro u hu
                    obtain ⟨v', wn, hrun, ho, hk, _, _⟩ := app_row (P := Try.prog) (ty := 49) turn_elem (ownsRow_ext HO7.out x7) (Nat.le_trans HE7.out.size x7.size) (src_new Try.underlying49 hu (sz := 4) rfl (turn_coded.one ⟨4, Y.name, X.name, ⟨#[]⟩⟩)) (by have := HLn.out; unfold maxLen; (try simp only [List.length_append, List.length_cons, List.length_nil]); omega) (by have := HLn.out; (try simp only [List.length_append, List.length_cons, List.length_nil]); omega)
                    have HEn := hid (hk.toExt (HE7.out.trans x7) (fun q hq => (row_block HO7.out q hq).1))
                    have HOn := hid (row_snoc (code := TurnI.cells) (x := ⟨4, Y.name, X.name, ⟨#[]⟩⟩) ho)
                    clear hu ho hk x7 HO7 HE7
                    have HE7 := hid HEn.out
                    have HO7 := hid HOn.out
                    clear HEn HOn
                    clear f0 f4 lf g0 g4 lg
                    have f0 := (HE.out.trans HE7.out).cell HA0.out
                    have f4 := (HE.out.trans HE7.out).cell HA4.out
                    have lf := Nat.lt_of_lt_of_le HLa.out (HE.out.trans HE7.out).size
                    have g0 := (HE.out.trans HE7.out).cell HB0.out
                    have g4 := (HE.out.trans HE7.out).cell HB4.out
                    have lg := Nat.lt_of_lt_of_le HLb.out (HE.out.trans HE7.out).size
                    rw [← List.append_assoc] at HS
                    go_wp2_with (at_builtin; refine wpList_app rfl (.tmp 94) (.tmp 106) _ _ rfl rfl rfl hrun ?_)
                    clear hrun
                    by_cases hd : X.d = Y.d
                    · have dd : (X.d.toList == Y.d.toList) = true := by rw [hd]; simp
                      refine wp_region_any_order (by kernel_rfl) (by kernel_rfl) (by kernel_rfl) ?_
                      repeat (first
                        | (refine AWq.val rfl rfl rfl rfl (fun K hK => ?_); go_big_quiet_op; refine hK _ ?_; clear hK K)
                        | (refine AWq.skip rfl rfl rfl ?_; simp only [Act.put, List.setIfInBounds_toArray, List.set_cons_succ, List.set_cons_zero]))
                      refine AWq.done rfl rfl rfl (fun w8 x8 => ?_)
                      simp only [closeAny, Act.put, List.setIfInBounds_toArray, List.set_cons_succ, List.set_cons_zero]
                      clear f0 f4 lf g0 g4 lg
                      have f0 := ((HE.out.trans HE7.out).trans x8).cell HA0.out
                      have f4 := ((HE.out.trans HE7.out).trans x8).cell HA4.out
                      have lf := Nat.lt_of_lt_of_le HLa.out ((HE.out.trans HE7.out).trans x8).size
                      have g0 := ((HE.out.trans HE7.out).trans x8).cell HB0.out
                      have g4 := ((HE.out.trans HE7.out).trans x8).cell HB4.out
                      have lg := Nat.lt_of_lt_of_le HLb.out ((HE.out.trans HE7.out).trans x8).size
                      rw [if_pos hd, List.append_nil] at HS
                      have HE8 := hid (HE7.out.trans x8)
                      have HO8 := hid (ownsRow_ext HO7.out x8)
                      clear hd x8 HO7 HE7
                      go_wp2_with fail
                      go_roundw
                      case rel => exact ⟨k + 1, by omega, by go_num, HE8.out, (fun h => by rw [HS.out] at h; simp at h), by rw [HS.out]; exact HO8.out⟩
                      case measure => simp [intOf]; omega
                    · have dd : (X.d.toList == Y.d.toList) = false := by rw [beq_toList]; simp [hd]
                      refine wp_region_any_order (by kernel_rfl) (by kernel_rfl) (by kernel_rfl) ?_
                      repeat (first
                        | (refine AWq.val rfl rfl rfl rfl (fun K hK => ?_); go_big_quiet_op; refine hK _ ?_; clear hK K)
                        | (refine AWq.skip rfl rfl rfl ?_; simp only [Act.put, List.setIfInBounds_toArray, List.set_cons_succ, List.set_cons_zero]))
                      refine AWq.done rfl rfl rfl (fun w8 x8 => ?_)
                      simp only [closeAny, Act.put, List.setIfInBounds_toArray, List.set_cons_succ, List.set_cons_zero]
                      clear f0 f4 lf g0 g4 lg
                      have f0 := ((HE.out.trans HE7.out).trans x8).cell HA0.out
                      have f4 := ((HE.out.trans HE7.out).trans x8).cell HA4.out
                      have lf := Nat.lt_of_lt_of_le HLa.out ((HE.out.trans HE7.out).trans x8).size
                      have g0 := ((HE.out.trans HE7.out).trans x8).cell HB0.out
                      have g4 := ((HE.out.trans HE7.out).trans x8).cell HB4.out
                      have lg := Nat.lt_of_lt_of_le HLb.out ((HE.out.trans HE7.out).trans x8).size
                      rw [if_neg hd] at HS
                      have HE8 := hid (HE7.out.trans x8)
                      have HO8 := hid (ownsRow_ext HO7.out x8)
                      clear hd x8 HO7 HE7
                      go_wp2_with fail
                      refine wp_region_two (pre := ?pre10) (z1 := ?z110) (z2 := ?z210) ?hpre10 ?hz110 ?hz210 (by kernel_rfl) (by kernel_rfl) (by kernel_rfl) (by kernel_rfl) (by kernel_rfl) ?_
                      case hpre10 => (simp only [List.dropLast_cons_cons, List.dropLast_singleton]; first | done | exact rfl)
                      case hz110 => (simp only [List.dropLast_cons_cons, List.dropLast_singleton, List.getLast?_cons_cons, List.getLast?_singleton]; first | done | exact rfl)
                      case hz210 => (simp only [List.getLast?_cons_cons, List.getLast?_singleton]; first | done | exact rfl)
                      repeat (first
                        | (refine AWq.val rfl rfl rfl rfl (fun K hK => ?_); go_big_quiet_op; refine hK _ ?_; clear hK K)
                        | (refine AWq.skip rfl rfl rfl ?_; simp only [Act.put, List.setIfInBounds_toArray, List.set_cons_succ, List.set_cons_zero])
                        | (refine AWq.opV (NewSl 58 #[.int .i64 3, .string Y.name, .string ⟨#[]⟩, .string Y.d] 1 1) (NewSl.steady _ _ _ _) rfl rfl rfl rfl (fun wc hc => ?_) ?_; (· (have hc' := hc.rule; clear hc; go_simp; dsimp only [Gives]; exact ⟨⟨_, rfl, Blk.new _ _ _⟩, Ext.alloc _ _⟩))))
                      refine AWq.two rfl rfl rfl (fun w9 x9 => ?_)
                      simp only [closeAny, Act.put, List.setIfInBounds_toArray, List.set_cons_succ, List.set_cons_zero]
                      intro u hu
                      obtain ⟨v', wn, hrun, ho, hk, _, _⟩ := app_row (P := Try.prog) (ty := 49) turn_elem (ownsRow_ext HO8.out x9) (Nat.le_trans HE8.out.size x9.size) (src_new Try.underlying49 hu (sz := 4) rfl (turn_coded.one ⟨3, Y.name, ⟨#[]⟩, Y.d⟩)) (by have := HLn.out; unfold maxLen; (try simp only [List.length_append, List.length_cons, List.length_nil]); omega) (by have := HLn.out; (try simp only [List.length_append, List.length_cons, List.length_nil]); omega)
                      have HE6 := hid (hk.toExt (HE8.out.trans x9) (fun q hq => (row_block HO8.out q hq).1))
                      have HO6 := hid ho
                      clear hu ho hk x9 HO8 HE8
                      go_wp2_with (at_builtin; refine wpList_app rfl (.tmp 119) (.tmp 131) _ _ rfl rfl rfl hrun ?_)
                      go_roundw
                      case rel => exact ⟨k + 1, by omega, by go_num, HE6.out, (fun h => by rw [HS.out] at h; simp [List.length_append] at h), by rw [HS.out]; exact (by simpa [TurnI.cells] using HO6.out)⟩
                      case measure => simp [intOf]; omega
            · obtain rfl : k = its.length := by omega
              rw [List.take_length] at hO
              have hrow := RowAt.of_row turn_coded hO (fun h0 => hz (by rw [List.take_length]; exact h0))
              have HR := hid hrow
              clear hE3 p3 hz hO hrow HO HZ
              go_wp2_with fail
              go_ret
              exact ⟨_, rfl, by rw [HAll.out]; exact HR.out, HE.out.trans HE3.out⟩
end Go.Proofs.Ytgkdiknmjgpgmaa
