/-
  sizes.Norm: the normal form.
-/
import Derived.Test.YtgkdiknmjgpgmaaGreatDoorSyA
namespace Go.Proofs.YtgkdiknmjgpgmaaGreatDoor.Sz
open Go.RowKit Go.Sort

/-- The last element's second cell is set. -/
theorem row_last {w : World} {B g cap : Nat} {e : TypeId} {acc : List Rng} {t : Rng} (h : w.ownsRow B e 2 (.slice (some ⟨g, 0, none⟩) (acc ++ [t]).length cap) (acc ++ [t]).length ((acc ++ [t]).map Rng.cells).flatten) (z : Int) :
    (w.setCell ⟨g, acc.length * 2 + 1, none⟩ (.int .i64 z)).ownsRow B e 2 (.slice (some ⟨g, 0, none⟩) (acc ++ [t]).length cap) (acc ++ [Rng.mk t.lo z]).length ((acc ++ [Rng.mk t.lo z]).map Rng.cells).flatten := by
  have hl : (acc ++ [t]).length = (acc ++ [Rng.mk t.lo z]).length := by simp
  rcases h.2 with ⟨hv, _⟩ | ⟨g', cap', cs, hv, hb, hg, h1, h2, h3, h4⟩
  · cases hv
  · injection hv with e1 e2 e3
    injection e1 with e1
    injection e1 with e1
    subst e1 e3
    have hB : Blk w g e cs := hg
    refine ⟨rng_coded.flat_len _, .inr ⟨g, cap, cs.setIfInBounds (acc.length * 2 + 1) (.int .i64 z), by rw [hl], hb, hB.set _ _, by rw [← hl]; exact h1, h2, by simpa using h3, ?_⟩⟩
    rw [← hl, Array.toList_setIfInBounds, List.take_set, h4, List.map_append, List.flatten_append, List.map_append, List.flatten_append, List.set_append_right _ _ (by rw [rng_coded.flat_len]; omega), rng_coded.flat_len]
    congr 1
    rw [show acc.length * 2 + 1 - acc.length * 2 = 1 by omega]
    simp [Rng.cells]

theorem mrgAll_none {m : List Rng} (h : mrgAll m = []) : m.length = 0 := by
  rcases List.eq_nil_or_concat m with rfl | ⟨m', r, rfl⟩
  · rfl
  · rw [List.concat_eq_append] at h
    have e : mrgAll (m' ++ [r]) = mrg (mrgAll m') r := by unfold mrgAll; rw [List.foldl_append]; rfl
    rw [e] at h
    unfold mrg at h
    split at h
    · split at h <;> simp at h
    · simp at h
def Fresh (w : World) (v : Value) : Prop := ∀ b o n c, v = .slice (some ⟨b, o, none⟩) n c → w.heap.size ≤ b
theorem Fresh.early {w w' : World} {v : Value} (h : Fresh w' v) (he : Ext w w') : Fresh w v := fun b o n c e => Nat.le_trans he.size (h b o n c e)
set_option maxRecDepth 100000 in
set_option maxHeartbeats 4000000 in
theorem norm_f (w : World) (v : Value) (l : List Rng) (h : Sl w 2 v (l.map Rng.cells)) (hl : l.length ≤ 100000) : Calls Tryz.prog 38 #[v] w (RetQ (fun v' w' => RowAt Rng.cells 2 (nf (sizes l)) v' w' ∧ Fresh w v') w) := by
  obtain ⟨A, c, rfl, h1, h2, h3⟩ := sl_get h
  unfold maxLen at h2
  clear h
  go_enter Tryz.func38, Tryz.ntmps38
  go_wp2_with fail
  go_loopw [3, 12] (fun v i wr => ∃ k : Nat, k ≤ l.length ∧ i = .int .i64 k ∧ Ext w wr ∧ wr.ownsRow w.heap.size 32 2 v (preR (l.take k)).length ((preR (l.take k)).map Rng.cells).flatten) (fun _ i _ => l.length - (intOf i).toNat)
  case atStart => exact ⟨0, by omega, rfl, Ext.refl _, ownsRow_nil _ _ _ _⟩
  case round =>
    obtain ⟨k, hk, rfl, hE, hO⟩ := hrel
    by_cases hlt : k < l.length
    · obtain ⟨b', o, rfl, lb, hcell⟩ := h3 (by omega)
      have c0 := hE.cell (hcell k hlt 0 _ rfl)
      have c1 := hE.cell (hcell k hlt 1 _ rfl)
      rw [Nat.add_zero] at c0
      have lbr := Nat.lt_of_lt_of_le lb hE.size
      have HS := hid (preR_take l k hlt)
      have HL : Hid ((preR (l.take k)).length ≤ 1000000) := by
        have h2 := preR_len (l.take k)
        rw [List.length_take] at h2
        unfold Hid
        omega
      have HE := hid hE
      have HO := hid hO
      clear hE hO hcell h3
      generalize l[k] = z at c0 c1 HS
      generalize preR (l.take k) = acc at HS HL HO
      have HH := fun W => hid (has_c z W)
      have HC := fun W => hid (clean_c z W)
      generalize cleanR z = q at HS HC
      unfold Rng.val at HH HC
      cases hz : hasR z with
      | true =>
        rw [hz] at HH HS
        go_wp2_with (first
          | (go_at_call 44; have tok := HX1; clear tok; refine (HC _).out.mono ?_; rintro e w2 ⟨rfl, hx⟩; have hE2 := HX1.out.trans hx; obtain ⟨v', w3, hrun, ho3, hk3, _⟩ := app_one (P := Tryz.prog) rng_elem rng_coded (ownsRow_ext HO.out hE2) (HE.out.trans hE2).size q HL.out (by omega); unfold Rng.cells at hrun; have HO3 := hid ho3; have HE3 : Hid (Ext w w3) := hk3.toExt (HE.out.trans hE2) (fun q hq => (row_block HO.out q hq).1); clear hx hE2 ho3 hk3)
          | (go_at_call 52; refine (HH _).out.mono ?_; rintro e w1 ⟨rfl, hx⟩; have hb := (Blk.new wr 32 #[.int .i64 z.lo, .int .i64 z.hi]).ext hx; have d0 := hb.cell (i := 0) (v := .int .i64 z.lo) rfl; have d1 := hb.cell (i := 1) (v := .int .i64 z.hi) rfl; have ld := hb.lt; have HX1 := hid ((Ext.alloc wr (.cells #[.int .i64 z.lo, .int .i64 z.hi] 32)).trans hx); clear hx hb)
          | (at_builtin; refine wpList_app rfl (.tmp 18) (.tmp 21) _ _ rfl rfl rfl hrun ?_))
        go_roundw
        case rel => exact ⟨k + 1, by omega, by go_num, HE3.out, by rw [HS.out, if_pos trivial]; exact HO3.out⟩
        case measure => simp [intOf]; omega
      | false =>
        rw [hz] at HH HS
        go_wp2_with (go_at_call 52; refine (HH _).out.mono ?_; rintro e w1 ⟨rfl, hx⟩; have HX1 := hid ((Ext.alloc wr (.cells #[.int .i64 z.lo, .int .i64 z.hi] 32)).trans hx); clear hx)
        go_roundw
        case rel => exact ⟨k + 1, by omega, by go_num, HE.out.trans HX1.out, by rw [HS.out, if_neg (by simp)]; exact ownsRow_ext HO.out HX1.out⟩
        case measure => simp [intOf]; omega
    · obtain rfl : k = l.length := by omega
      rw [List.take_length] at hO
      have HE := hid hE
      have hpl := preR_len l
      have HO := hid hO
      clear hE hO h3
      go_wp2_with (go_at_call 53; refine (sortRng_c HO.out (by omega)).mono ?_; rintro e w2 ⟨rfl, k2, m, hp, hs, ho2⟩; have K2 := hid k2; have P2 := hid hp; have S2 := hid hs; obtain ⟨A3, c3, hu, q1, q2, q3⟩ := sl_get (sl_of_row (xs := m.map Rng.cells) (rng_coded.sizes m) (by rw [List.length_map]; exact ho2)); have HO3 := hid ho2; subst hu; clear k2 hp hs ho2)
      unfold maxLen at q2
      have hE2 : Ext w w2 := K2.out.toExt HE.out (fun q hq => (row_block HO.out q hq).1)
      have hsort : m.Pairwise (fun x y => x.lo ≤ y.lo) := S2.out.imp fun h => by rw [cmpR_lt] at h; simp at h; exact h
      obtain ⟨hn1, hn2, hn3⟩ := mrgAll_nf P2.out hsort
      have hok : ∀ r ∈ m, Ok1 r := fun r hr => preR_ok l r (P2.out.mem_iff.1 hr)
      have hml : m.length ≤ l.length := by rw [P2.out.length_eq]; exact hpl
      have HPre : Hid (∀ k, k ≤ m.length → (mrgAll (m.take k)).length ≤ k ∧ ∀ t ∈ mrgAll (m.take k), Ok1 t) := fun k hk => by
        obtain ⟨g1, _, g3⟩ := foldl_mrg (m.take k) [] IsForm.nil (fun t ht => by cases ht) (hsort.sublist (List.take_sublist _ _)) (fun r hr => hok r (List.mem_of_mem_take hr))
        refine ⟨?_, g1.ok⟩
        have : (List.take k m).length ≤ k := List.length_take_le _ _
        unfold mrgAll
        simp only [List.length_nil, Nat.zero_add] at g3
        omega
      have HE2 := hid hE2
      have HN := hid hn1
      have HOk := hid hok
      clear hE2 hsort hn1 hn2 hn3 hok HO K2 P2 S2 HE hpl
      go_loopw [4, 28] (fun v i wr => ∃ k : Nat, k ≤ m.length ∧ i = .int .i64 k ∧ Ext w2 wr ∧ (k = 0 → v = .slice none 0 0) ∧ wr.ownsRow w2.heap.size 32 2 v (mrgAll (m.take k)).length ((mrgAll (m.take k)).map Rng.cells).flatten) (fun _ i _ => m.length - (intOf i).toNat)
      case atStart => exact ⟨0, by omega, rfl, Ext.refl _, (fun _ => rfl), ownsRow_nil _ _ _ _⟩
      case round =>
        obtain ⟨k, hk, rfl, hE, hz0, hO⟩ := hrel
        have HZ0 := hid hz0
        clear hz0
        by_cases hlt : k < m.length
        · obtain ⟨b', o, rfl, lb, hcell⟩ := q3 (by omega)
          have c0 := hE.cell (hcell k hlt 0 _ rfl)
          have c1 := hE.cell (hcell k hlt 1 _ rfl)
          rw [Nat.add_zero] at c0
          have lbr := Nat.lt_of_lt_of_le lb hE.size
          have HS := hid (mrgAll_take m k hlt)
          obtain ⟨p1, p2⟩ := HPre.out k hk
          have hokz := HOk.out _ (List.getElem_mem hlt)
          have HE := hid hE
          have HO := hid hO
          clear hE hO hcell q3
          generalize m[k] = z at c0 c1 HS hokz
          generalize mrgAll (m.take k) = acc at HS HO p1 p2
          unfold Ok1 at hokz
          have HB : Hid (∀ W, Ext (wr.alloc (.cells #[.int .i64 z.lo, .int .i64 z.hi] 32)) W → W.cell? ⟨wr.heap.size, 0, none⟩ = some (.int .i64 z.lo) ∧ W.cell? ⟨wr.heap.size, 1, none⟩ = some (.int .i64 z.hi) ∧ wr.heap.size < W.heap.size) := fun W hW => by
            have hb := (Blk.new wr 32 #[.int .i64 z.lo, .int .i64 z.hi]).ext hW
            exact ⟨hb.cell rfl, hb.cell rfl, hb.lt⟩
          rcases List.eq_nil_or_concat acc with rfl | ⟨acc', t, rfl⟩
          · rw [mrg_nil] at HS
            obtain ⟨A4, c4, hu4, _⟩ := sl_get (sl_of_row (xs := ([] : List Rng).map Rng.cells) (rng_coded.sizes []) HO.out)
            subst hu4
            go_wp2_with fail
            refine wp_region_any_order (by kernel_rfl) (by kernel_rfl) (by kernel_rfl) ?_
            repeat (first
              | (refine AWq.val rfl rfl rfl rfl (fun K hK => ?_); go_big_quiet_op; refine hK _ ?_; clear hK K)
              | (refine AWq.skip rfl rfl rfl ?_; simp only [Act.put, List.setIfInBounds_toArray, List.set_cons_succ, List.set_cons_zero]))
            refine AWq.done rfl rfl rfl (fun w5 x5 => ?_)
            simp only [closeAny, Act.put, List.setIfInBounds_toArray, List.set_cons_succ, List.set_cons_zero]
            obtain ⟨y0, y1, ly⟩ := HB.out _ x5
            have HE5 := hid ((Ext.alloc wr (.cells #[.int .i64 z.lo, .int .i64 z.hi] 32)).trans x5)
            obtain ⟨v', w4, hrun, ho4, hk4, _⟩ := app_one (P := Tryz.prog) rng_elem rng_coded (acc := ([] : List Rng)) (ownsRow_ext HO.out HE5.out) (HE.out.trans HE5.out).size z (by omega) (by omega)
            unfold Rng.cells at hrun
            have HO4 := hid ho4
            have HE4 : Hid (Ext w2 w4) := hk4.toExt (HE.out.trans HE5.out) (fun q hq => (row_block HO.out q hq).1)
            clear ho4 hk4 x5 HB
            go_wp2_with (at_builtin; refine wpList_app rfl (.tmp 62) (.tmp 64) _ _ rfl rfl rfl hrun ?_)
            go_roundw
            case rel => exact ⟨k + 1, by omega, by go_num, HE4.out, (fun h => by omega), by rw [HS.out]; exact HO4.out⟩
            case measure => simp [intOf]; omega
          · rw [List.concat_eq_append] at *
            rw [mrg_snoc] at HS
            have hokt := p2 t (by simp)
            unfold Ok1 at hokt
            obtain ⟨N, hN⟩ : ∃ N, acc'.length = N := ⟨_, rfl⟩
            have hN1 : (acc' ++ [t]).length = N + 1 := by rw [List.length_append, hN]; rfl
            rcases HO.out.2 with ⟨_, h0⟩ | ⟨g, cap, cs, hu4, hb4, hg4, r1, r2, r3, r4⟩
            · omega
            · have hB4 : Blk wr g 32 cs := hg4
              have ct : wr.cell? ⟨g, N * 2 + 1, none⟩ = some (.int .i64 t.hi) := by
                refine hB4.cell ?_
                have e := rng_coded.flat_at (acc' ++ [t]) N 1 (by omega) (by omega)
                rw [← r4, List.getElem?_take, if_pos (by omega)] at e
                have e2 : (acc' ++ [t])[N]'(by omega) = t := by subst hN; simp
                rw [e2] at e
                simpa [Rng.cells] using e
              have fz := hB4.frozen (N * 2 + 1)
              have lg := hB4.lt
              rw [hN1] at hu4 r1
              subst hu4
              have HN1 := hid hN1
              have HNN := hid hN
              have HFz : Hid (∀ W, Ext wr W → W.frozen? ⟨g, N * 2 + 1, none⟩ = false) := fun W hW => (hB4.ext hW).frozen _
              unfold maxLen at r2
              clear hN1 hN hB4 hg4 r3 r4 p2
              by_cases hm : z.lo ≤ t.hi + 1
              · rw [if_pos hm] at HS
                go_wp2_with fail
                refine wp_region_any_order (by kernel_rfl) (by kernel_rfl) (by kernel_rfl) ?_
                repeat (first
                  | (refine AWq.val rfl rfl rfl rfl (fun K hK => ?_); go_big_quiet_op; refine hK _ ?_; clear hK K)
                  | (refine AWq.skip rfl rfl rfl ?_; simp only [Act.put, List.setIfInBounds_toArray, List.set_cons_succ, List.set_cons_zero]))
                refine AWq.done rfl rfl rfl (fun w5 x5 => ?_)
                simp only [closeAny, Act.put, List.setIfInBounds_toArray, List.set_cons_succ, List.set_cons_zero]
                obtain ⟨y0, y1, ly⟩ := HB.out _ x5
                have HE5 := hid ((Ext.alloc wr (.cells #[.int .i64 z.lo, .int .i64 z.hi] 32)).trans x5)
                have ct5 := HE5.out.cell ct
                have lg5 := Nat.lt_of_lt_of_le lg HE5.out.size
                clear x5 HB ct fz
                go_wp2_with fail
                refine wp_region_last (Rel.ext) (pre := ?pre3) (z := ?z3) ?hpre3 ?hz3 (Ext.steady _) (by kernel_rfl) (by kernel_rfl) (by kernel_rfl) (by kernel_rfl) ?_
                case hpre3 => (simp only [List.dropLast_cons_cons, List.dropLast_singleton]; first | done | exact rfl)
                case hz3 => (simp only [List.getLast?_cons_cons, List.getLast?_singleton]; first | done | exact rfl)
                repeat (first
                  | (refine AWq.val rfl rfl rfl rfl (fun K hK => ?_); go_big_quiet_op; refine hK _ ?_; clear hK K)
                  | (refine AWq.skip rfl rfl rfl ?_; simp only [Act.put, List.setIfInBounds_toArray, List.set_cons_succ, List.set_cons_zero]))
                refine AWq.last rfl rfl rfl (fun w6 x6 => ?_)
                simp only [closeAny, Act.put, List.setIfInBounds_toArray, List.set_cons_succ, List.set_cons_zero]
                have HE6 := hid (HE5.out.trans x6)
                have ct6 := x6.cell ct5
                have fz6 := HFz.out _ HE6.out
                have lg6 := Nat.lt_of_lt_of_le lg5 x6.size
                clear x6
                go_wp2_with fail
                go_roundw
                case rel =>
                  refine ⟨k + 1, by omega, by go_num, ?_, (fun h => by omega), ?_⟩
                  · exact (HE.out.trans HE6.out).setCell' hb4 _
                  · rw [HS.out]
                    have := row_last (acc := acc') (t := t) (g := g) (cap := cap) (by rw [HN1.out]; have := ownsRow_ext HO.out HE6.out; rw [HN1.out] at this; exact this) (max t.hi z.hi)
                    rw [HN1.out, HNN.out] at this
                    exact this
                case measure => simp [intOf]; omega
              · rw [if_neg hm] at HS
                have hm' : decide (z.lo ≤ t.hi + 1) = false := decide_eq_false hm
                clear hm
                go_wp2_with fail
                refine wp_region_any_order (by kernel_rfl) (by kernel_rfl) (by kernel_rfl) ?_
                repeat (first
                  | (refine AWq.val rfl rfl rfl rfl (fun K hK => ?_); go_big_quiet_op; refine hK _ ?_; clear hK K)
                  | (refine AWq.skip rfl rfl rfl ?_; simp only [Act.put, List.setIfInBounds_toArray, List.set_cons_succ, List.set_cons_zero]))
                refine AWq.done rfl rfl rfl (fun w5 x5 => ?_)
                simp only [closeAny, Act.put, List.setIfInBounds_toArray, List.set_cons_succ, List.set_cons_zero]
                clear hm'
                obtain ⟨y0, y1, ly⟩ := HB.out _ x5
                have HE5 := hid ((Ext.alloc wr (.cells #[.int .i64 z.lo, .int .i64 z.hi] 32)).trans x5)
                obtain ⟨v', w4, hrun, ho4, hk4, _⟩ := app_one (P := Tryz.prog) rng_elem rng_coded (acc := (acc' ++ [t])) (ownsRow_ext HO.out HE5.out) (HE.out.trans HE5.out).size z (by omega) (by omega)
                unfold Rng.cells at hrun
                have HO4 := hid ho4
                have HE4 : Hid (Ext w2 w4) := hk4.toExt (HE.out.trans HE5.out) (fun q hq => (row_block HO.out q hq).1)
                clear ho4 hk4 x5 HB
                go_wp2_with (at_builtin; refine wpList_app rfl (.tmp 62) (.tmp 64) _ _ rfl rfl rfl hrun ?_)
                go_roundw
                case rel => exact ⟨k + 1, by omega, by go_num, HE4.out, (fun h => by omega), by rw [HS.out]; exact HO4.out⟩
                case measure => simp [intOf]; omega
        · obtain rfl : k = m.length := by omega
          rw [List.take_length] at hO
          have HO := hid hO
          have HE := hid hE
          have hnil : Hid ((nf (sizes l)).length = 0 → u4 = .slice none 0 0) := fun h0 => HZ0.out (mrgAll_none (by rw [HN.out]; exact List.eq_nil_of_length_eq_zero h0))
          have HFr : Hid (Fresh w u4) := fun b o n c e => Nat.le_trans HE2.out.size (row_block HO.out b (by rw [e]; rfl)).1
          clear hO hE q3
          go_wp2_with fail
          go_ret
          refine ⟨_, rfl, ?_, HE2.out.trans HE.out⟩
          rw [HN.out] at HO
          exact ⟨RowAt.of_row rng_coded HO.out hnil.out, HFr.out⟩
theorem norm_c (w : World) (v : Value) (l : List Rng) (h : Sl w 2 v (l.map Rng.cells)) (hl : l.length ≤ 100000) : Calls Tryz.prog 38 #[v] w (RetQ (RowAt Rng.cells 2 (nf (sizes l))) w) :=
  (norm_f w v l h hl).mono fun e w' ⟨v', he, hr, hx⟩ => ⟨v', he, hr.1, hx⟩
end Go.Proofs.YtgkdiknmjgpgmaaGreatDoor.Sz
