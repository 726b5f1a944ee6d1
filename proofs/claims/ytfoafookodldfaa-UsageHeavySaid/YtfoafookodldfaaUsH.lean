/-
  The document's All.
-/
import Derived.Test.YtfoafookodldfaaUsG
namespace Go.Proofs.Ytfoafookodldfaa
set_option linter.unusedSimpArgs false
set_option linter.unusedVariables false
open Go.RowKit

theorem base0_put : putK ⟨#[]⟩ 0 [] = base0 := by simp [putK, hasK, rk, base0]
set_option maxRecDepth 100000 in
set_option maxHeartbeats 2000000 in
theorem rall_c (w : World) (v : Value) (l : List LeafI) (h : Sl w 5 v (Leaves l)) (hs : Few100 l) : Calls Try.prog 33 #[v] w (RetQ (fun v' w' => Sl w' 3 v' (Uses (allK l (preK l)))) w) := by
  obtain ⟨i0, hi0, hz0, hz1, hz2⟩ := info_parts use_info
  have hlen : ∀ k, (preK (l.take k)).length ≤ 1 + 100 * 1001 := fun k => by
    have := pre_length (l := l.take k) (fun x hx => (hs.2 x (List.mem_of_mem_take hx)).1)
    have h3 : (l.take k).length * 1001 ≤ 100 * 1001 := Nat.mul_le_mul_right _ (by rw [List.length_take]; have := hs.1; omega)
    omega
  have hql := hlen l.length
  rw [List.take_length] at hql
  have Hlen := hid hlen
  have hqs := hid (pre_size (l := l) (fun x hx => (hs.2 x hx).1))
  have HOf : Hid (∀ W t, Ext w W → t.size ≤ 1000 → Calls Try.prog 30 #[v, .string t] W (Ret (.agg #[.string t, .int .i64 (filesK l t), .int .i64 (bytesK l t)]) W)) := fun W t he ht => rof_c W v l t (h.ext he) hs.slim ht
  obtain ⟨A, c, rfl, h1, h2, h3⟩ := sl_leaf h
  obtain ⟨s1, s2⟩ := hs
  clear h hlen
  unfold maxLen at h2
  have H0 := hid (rput_c w 0 (.slice none 0 0) [] ⟨#[]⟩ 0 (RowAt.nil _ _) (by simp) List.Pairwise.nil)
  rw [base0_put] at H0
  go_enter Try.func33, Try.ntmps33
  go_wp2_with (go_at_call 16; refine (H0.out).mono ?_; rintro e w0 ⟨v0, rfl, hv0, hx0⟩; have HV0 := hid hv0; have HX0 := hid hx0; clear hv0 hx0)
  clear H0
  go_loopw [3, 4] (fun v i wr => ∃ k : Nat, k ≤ l.length ∧ i = .int .i64 k ∧ Ext w wr ∧ RowAt w.heap.size (preK (l.take k)) v wr) (fun _ i _ => l.length - (intOf i).toNat)
  case atStart => exact ⟨0, by omega, rfl, HX0.out, HV0.out⟩
  case round =>
    obtain ⟨k, hk, rfl, hE, hR⟩ := hrel
    by_cases hlt : k < l.length
    · obtain ⟨b, o, rfl, lb, hcell⟩ := h3 (by omega)
      obtain ⟨c0, c1, c2, c3, c4⟩ := hcell k hlt
      have e1 := hE.cell c1
      have lb1 := Nat.lt_of_lt_of_le lb hE.size
      have hsz := (s2 _ (List.getElem_mem hlt)).1
      obtain ⟨f1, f2⟩ := pre_facts (l.take k)
      have hq := Hlen.out k
      have HT : Hid (preK (l.take (k + 1)) = putZ (putK l[k].path 0 (preK (l.take k))) (slashTo l[k].path l[k].path.size)) := by
        have := rpre_take l k hlt
        rw [pre_eq, pre_eq] at this
        exact this
      have HP := hid (rput_c wr _ u3 (preK (l.take k)) l[k].path 0 hR (by omega) f1)
      have HSrt := hid (putK_srt l[k].path 0 f1)
      have HZr := hid (putK_zeros l[k].path f2)
      have hpl := putK_length l[k].path 0 (preK (l.take k))
      have HE := hid hE
      clear hcell h3 hE hR c0 c1 c2 c3 c4 s2 f1 f2
      generalize l[k].path = s at e1 HT HP HSrt HZr hsz hpl
      generalize putK s 0 (preK (l.take k)) = q0 at HT HP HSrt HZr hpl
      go_wp2_with (go_at_call 16; refine (HP.out).mono ?_; rintro e w1 ⟨v1, rfl, hv1, hx1⟩; have HV1 := hid (hv1.mono HE.out.size); have HX1 := hid (HE.out.trans hx1); clear hv1 hx1)
      clear HP
      go_loopw [3, 6] (fun v i wr => ∃ j : Nat, j ≤ s.size ∧ i = .int .i64 j ∧ Ext w wr ∧ RowAt w.heap.size (putZ q0 (slashTo s j)) v wr) (fun _ i _ => s.size - (intOf i).toNat)
      case atStart => exact ⟨0, by omega, rfl, HX1.out, HV1.out⟩
      case round =>
        obtain ⟨j, hj, rfl, hE, hR⟩ := hrel
        clear HV1 HX1
        by_cases hjs : j < s.size
        · have hg := get_toList s j hjs
          obtain ⟨z1, z2, z3, z4⟩ := putZ_facts q0 (slashTo s j) HSrt.out HZr.out
          have hsl := slashTo_length s j
          have HP := hid (rput_c wr _ u3 (putZ q0 (slashTo s j)) (s.extract 0 j) 0 hR (by omega) z1)
          have HE := hid hE
          have HR := hid hR
          have hst : slashTo s (j + 1) = slashTo s j ++ slashAt s j := rfl
          unfold slashAt at hst
          rw [hg] at hst
          by_cases h47 : s[j] = 47
          · rw [if_pos (by rw [h47])] at hst
            have HQ : Hid (putZ q0 (slashTo s (j + 1)) = putK (s.extract 0 j) 0 (putZ q0 (slashTo s j))) := by unfold Hid; rw [hst, putZ_append]; rfl
            have hb : ((s[j].toNat : Int) == 47) = true := by rw [h47]; rfl
            clear hst hg z1 z2 z3 z4 hE hR hsl
            go_wp2_with (go_at_call 16; refine (HP.out).mono ?_; rintro e w2 ⟨v2, rfl, hv2, hx2⟩; have HV2 := hid (hv2.mono HE.out.size); have HX2 := hid (HE.out.trans hx2); clear hv2 hx2)
            go_roundw
            case rel => exact ⟨j + 1, by omega, by go_num, HX2.out, by rw [HQ.out]; exact HV2.out⟩
            case measure => simp [intOf]; omega
          · rw [if_neg (by simpa using h47), List.append_nil] at hst
            have HQ : Hid (slashTo s (j + 1) = slashTo s j) := hst
            have hb : ((s[j].toNat : Int) == 47) = false := by
              simp only [beq_eq_false_iff_ne, ne_eq]
              intro h
              have h5 : s[j].toNat = 47 := by omega
              exact h47 (UInt8.toNat_inj.1 h5)
            clear hst hg z1 z2 z3 z4 hE hR hsl HP
            go_wp2_with fail
            go_roundw
            case rel => exact ⟨j + 1, by omega, by go_num, HE.out, by rw [HQ.out]; exact HR.out⟩
            case measure => simp [intOf]; omega
        · obtain rfl : j = s.size := by omega
          rw [← HT.out] at hR
          have HE := hid hE
          have HR := hid hR
          clear hE hR
          go_wp2_with fail
          go_roundw
          case rel => exact ⟨k + 1, by omega, by go_num, HE.out, HR.out⟩
          case measure => simp [intOf]; omega
    · obtain rfl : k = l.length := by omega
      rw [List.take_length] at hR
      generalize hqe : preK l = q at hR hql hqs
      have HQe := hid hqe
      clear hqe
      obtain ⟨XA, XC, rfl, x1, x2, x3, _⟩ := hR
      unfold maxLen at x2
      have HE0 := hid hE
      clear hE h3 s2
      go_wp2_with fail
      generalize wr = w1 at *
      go_loopw [7, 8] (fun v i wr => ∃ k : Nat, k ≤ q.length ∧ i = .int .i64 k ∧ Ext w1 wr ∧ wr.ownsRow w1.heap.size 55 3 v k (Uses (allK l (q.take k))).flatten) (fun _ i _ => q.length - (intOf i).toNat)
      case atStart => exact ⟨0, by omega, rfl, Ext.refl _, ⟨rfl, .inl ⟨rfl, rfl⟩⟩⟩
      case round =>
        obtain ⟨k, hk, rfl, hE, hown⟩ := hrel
        by_cases hlt : k < q.length
        · obtain ⟨b, rfl, _, lb, hcell⟩ := x3 (by omega)
          have c0 := hE.cell (hcell k hlt).1
          have lb1 := Nat.lt_of_lt_of_le lb hE.size
          have ht := hqs.out _ (List.getElem_mem hlt)
          have HS := hid (allK_succ l q k hlt)
          have HE := hid hE
          have HOwn := hid hown
          clear hE hown hcell x3
          generalize q[k].name = t at c0 ht HS
          go_wp2_with (first
            | (go_at_call 30; refine (HOf.out _ _ (HE0.out.trans HE.out) ht).mono ?_; rintro e w3 ⟨rfl, hx⟩; have HX3 := hid (HE.out.trans hx); have HOwn3 := hid (ownsRow_ext HOwn.out hx); have O4 := hid (ownsRow_ext HOwn3.out (Ext.alloc w3 (.cells #[.string t, .int .i64 (filesK l t), .int .i64 (bytesK l t)] 55))); have hbs := (HX3.out.alloc' (.cells #[.string t, .int .i64 (filesK l t), .int .i64 (bytesK l t)] 55)).size; clear hx)
            | (at_builtin; refine wpList_append_lies _ rfl (.tmp 45) (.tmp 53) _ rfl w1.heap.size 55 i0 _ 3 32 Try.underlying58 hi0 hz0 hz1 hz2 rfl (by omega) u7 k (Uses (allK l (q.take k))).flatten rfl O4.out ⟨w3.heap.size, 0, none⟩ 1 1 [.string t, .int .i64 (filesK l t), .int .i64 (bytesK l t)] rfl rfl (World.news_of_block (cs := #[.string t, .int .i64 (filesK l t), .int .i64 (bytesK l t)]) (t := 55) (fr := (0, 0)) (heap_alloc_new w3 _)) (by simp [Value.oneCell']) (by omega) (by unfold maxLen; omega) (by omega) hbs _ rfl ?_; intro g2 cc2 w4 hown4 hgrow hat hlt4; have HB : Hid (Ext w1 w4) := (HX3.out.alloc' _).grown hgrow hbs (fun q hq => (row_block O4.out q hq).1); have HO4 := hid hown4; clear hgrow hat hlt4 hown4 hbs))
          go_roundw
          case rel => exact ⟨k + 1, by omega, by go_num, HB.out, by rw [HS.out, uses_append]; exact HO4.out⟩
          case measure => simp [intOf]; omega
        · obtain rfl : k = q.length := by omega
          rw [List.take_length] at hown
          have HE := hid hE
          have HOwn := hid hown
          clear hE hown x3
          go_wp2_with fail
          go_ret
          refine ⟨_, rfl, by rw [HQe.out]; exact sl_of_row (uses_sz _) (by rw [show (Uses (allK l q)).length = q.length by simp [Uses, allK]]; exact HOwn.out), HE0.out.trans HE.out⟩
end Go.Proofs.Ytfoafookodldfaa
