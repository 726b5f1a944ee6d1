/-
  lighteragelaw38.few.
-/
import Derived.Test.YtefgjkaoidifbaaTaF
import Derived.Test.YtefgjkaoidifbaaAwT
namespace Go.Proofs.Ytefgjkaoidifbaa
set_option linter.unusedSimpArgs false
set_option linter.unusedVariables false
open Go.RowKit Go.Sort Go.Maps

def cutC (c : Cnt) : Cnt := ⟨c.kind, c.acts.tmod 1099511627776, c.errs.tmod 1099511627776, c.made.tmod 1099511627776⟩
theorem tmod_bd (x : Int) : -1099511627776 ≤ x.tmod 1099511627776 ∧ x.tmod 1099511627776 ≤ 1099511627776 := by
  have := Int.tmod_lt_of_pos x (b := 1099511627776) (by omega)
  have := Int.lt_tmod_of_pos x (b := 1099511627776) (by omega)
  omega
theorem cutC_bd (c : Cnt) : Bd 1100000000000 (cutC c) := by
  have h1 := tmod_bd c.acts
  have h2 := tmod_bd c.errs
  have h3 := tmod_bd c.made
  unfold Bd cutC
  simp only
  omega

set_option maxRecDepth 100000 in
set_option maxHeartbeats 1000000 in
theorem cfew_c (w : World) (v : Value) (l : List Cnt) (h : Sl w 4 v (l.map Cnt.cells)) : Calls Try.prog 48 #[v] w (RetQ (RowAt Cnt.cells 4 ((l.take 40).map cutC)) w) := by
  obtain ⟨A, c, rfl, h1, h2, h3⟩ := sl_get h
  unfold maxLen at h2
  clear h
  go_enter Try.func48, Try.ntmps48
  go_wp2_with fail
  go_loopw [3, 4] (fun v i wr => ∃ k : Nat, k ≤ l.length ∧ k ≤ 40 ∧ i = .int .i64 k ∧ Ext w wr ∧ (k = 0 → v = .slice none 0 0) ∧ wr.ownsRow w.heap.size 58 4 v ((l.take k).map cutC).length (((l.take k).map cutC).map Cnt.cells).flatten) (fun _ i _ => 40 - (intOf i).toNat)
  case atStart => exact ⟨0, by omega, by omega, rfl, Ext.refl _, (fun _ => rfl), ownsRow_nil _ _ _ _⟩
  case round =>
    obtain ⟨k, hk, hk40, rfl, hE, hz, hO⟩ := hrel
    have HE := hid hE
    have HO := hid hO
    have HZ := hid hz
    by_cases hlt : k < l.length
    · by_cases h40 : k < 40
      · have d0 : decide ((k : Int) < 40) = true := by simp; omega
        obtain ⟨b, o, rfl, lb, hcell⟩ := h3 (by omega)
        have c0 := hE.cell (hcell k hlt 0 _ rfl)
        have c1 := hE.cell (hcell k hlt 1 _ rfl)
        have c2 := hE.cell (hcell k hlt 2 _ rfl)
        have c3 := hE.cell (hcell k hlt 3 _ rfl)
        rw [Nat.add_zero] at c0
        have lbr := Nat.lt_of_lt_of_le lb hE.size
        have HT : Hid ((l.take (k + 1)).map cutC = (l.take k).map cutC ++ [cutC l[k]]) := by unfold Hid; rw [List.take_succ_eq_append_getElem hlt, List.map_append]; rfl
        have HLn : Hid (((l.take k).map cutC).length ≤ 40) := by unfold Hid; rw [List.length_map, List.length_take]; omega
        clear hE hcell h3 hz hO
        generalize l[k] = z at c0 c1 c2 c3 HT
        generalize (l.take k).map cutC = acc at HO HT HLn
        go_wp2_with fail
        refine wp_region_two (pre := ?pre) (z1 := ?z1) (z2 := ?z2) ?hpre ?hz1 ?hz2 (by kernel_rfl) (by kernel_rfl) (by kernel_rfl) (by kernel_rfl) (by kernel_rfl) ?_
        case hpre => (simp only [List.dropLast_cons_cons, List.dropLast_singleton]; first | done | exact rfl)
        case hz1 => (simp only [List.dropLast_cons_cons, List.dropLast_singleton, List.getLast?_cons_cons, List.getLast?_singleton]; first | done | exact rfl)
        case hz2 => (simp only [List.getLast?_cons_cons, List.getLast?_singleton]; first | done | exact rfl)
        repeat (first
          | (refine AWq.val rfl rfl rfl rfl (fun K hK => ?_); go_big_quiet_op; refine hK _ ?_; clear hK K)
          | (refine AWq.skip rfl rfl rfl ?_; simp only [Act.put, List.setIfInBounds_toArray, List.set_cons_succ, List.set_cons_zero])
          | (refine AWq.opV (NewSl 58 #[.int .i64 z.kind, .int .i64 (z.acts.tmod 1099511627776), .int .i64 (z.errs.tmod 1099511627776), .int .i64 (z.made.tmod 1099511627776)] 1 1) (NewSl.steady _ _ _ _) rfl rfl rfl rfl (fun wc hc => ?_) ?_; (· (have hc' := hc.rule; clear hc; go_simp; dsimp only [Gives]; exact ⟨⟨_, rfl, Blk.new _ _ _⟩, Ext.alloc _ _⟩))))
        refine AWq.two rfl rfl rfl (fun w2 x2 => ?_)
        simp only [closeAny, Act.put, List.setIfInBounds_toArray, List.set_cons_succ, List.set_cons_zero]
        intro u hu
        obtain ⟨v', w3, hrun, ho3, hk3, _, _⟩ := app_row (P := Try.prog) (ty := 53) cnt_elem (ownsRow_ext HO.out x2) (Nat.le_trans HE.out.size x2.size) (src_new Try.underlying53 hu (sz := 4) rfl (cnt_coded.one (cutC z))) (by have := HLn.out; unfold maxLen; omega) (by have := HLn.out; omega)
        have HE3 := hid (hk3.toExt (HE.out.trans x2) (fun q hq => (row_block HO.out q hq).1))
        have HO3 : Hid (w3.ownsRow w.heap.size 58 4 v' ((l.take (k + 1)).map cutC).length (((l.take (k + 1)).map cutC).map Cnt.cells).flatten) := by
          unfold Hid
          rw [HT.out]
          have h : w3.ownsRow w.heap.size 58 4 v' (acc.length + 1) ((acc.map Cnt.cells).flatten ++ (cutC z).cells) := ho3
          simpa using h
        clear hu ho3 hk3 x2 HT HO HE HZ HLn
        go_wp2_with (at_builtin; refine wpList_app rfl (.tmp 15) (.tmp 40) _ _ rfl rfl rfl hrun ?_)
        go_roundw
        case rel => exact ⟨k + 1, by omega, by omega, by go_num, HE3.out, (fun h => by omega), HO3.out⟩
        case measure => simp [intOf]; omega
      · obtain rfl : k = 40 := by omega
        clear hE h3 hz hO
        go_wp2_with fail
        go_ret
        exact ⟨_, rfl, RowAt.of_row cnt_coded HO.out (fun h0 => HZ.out (by rw [List.length_map, List.length_take] at h0; omega)), HE.out⟩
    · obtain rfl : k = l.length := by omega
      have HT : Hid (l.take 40 = l.take l.length) := by unfold Hid; rw [List.take_length, List.take_of_length_le hk40]
      clear hE h3 hz hO
      go_wp2_with fail
      go_ret
      refine ⟨_, rfl, ?_, HE.out⟩
      rw [HT.out]
      exact RowAt.of_row cnt_coded HO.out (fun h0 => HZ.out (by rw [List.length_map, List.length_take] at h0; omega))
end Go.Proofs.Ytefgjkaoidifbaa
