/-
  Package sizes: clean, has, the sort's closure.
  sizes.Norm: the normal form.
  The document's ranges: Holds, Of, Form, Two, Same.
  The document's ranges of two sets; the same ranges.
  Package sizes: Join, Meet, rest, Minus, Covers, Same.
  Package sizes: rest, Minus, Covers, Same; lighteragelaw08.few, awake.
-/
import Derived.Test.YtggbkjmedoooaaaGreatDoorVersG0
import Derived.Test.YtggbkjmedoooaaaGreatDoorRow
import Derived.Test.YtggbkjmedoooaaaGreatDoorSzP
import Derived.Test.YtggbkjmedoooaaaGreatDoorSoG
import Derived.Test.YtggbkjmedoooaaaGreatDoorSoR
namespace Go.Proofs.YtggbkjmedoooaaaGreatDoor.D
open Go.RowKit
def cmpR (a b : Rng) : Int := cmpI a.lo b.lo
set_option maxRecDepth 100000 in
set_option maxHeartbeats 400000 in
theorem lo_c (a b : Rng) (w : World) : Calls Tryz.prog 80 #[a.val, b.val] w (Ret (.int .i64 (cmpR a b)) w) := by
  have H := fun W => hid (compare_c a.lo b.lo W)
  unfold cmpR Rng.val
  generalize cmpI a.lo b.lo = z at H ⊢
  go_enter Tryz.func80, Tryz.ntmps80
  go_wp2_with (go_at_call 81; refine (H _).out.mono ?_; rintro e w' ⟨rfl, hx⟩)
  go_ret
  exact ⟨rfl, (((Ext.refl _).alloc' _).alloc' _).trans hx⟩
theorem lo_g (a b : Rng) (W : World) : Calls Tryz.prog 80 #[a.val, b.val] W fun e w' => e = .returned (.int .i64 (cmpR a b)) ∧ ∃ q os', w' = Go.Sort.grow (W.drewN q) os' :=
  (lo_c a b W).mono fun e w' ⟨he, hx⟩ => by
    obtain ⟨E, hE⟩ := hx.wext
    exact ⟨he, E.drawn, E.objs, hE⟩
end Go.Proofs.YtggbkjmedoooaaaGreatDoor.D
namespace Go.Proofs.YtggbkjmedoooaaaGreatDoor.Sz
open Go.RowKit Go.Sort

theorem rng_coded : Coded Rng.cells 2 := ⟨fun _ => rfl, fun a u hu => by simp [Rng.cells] at hu; rcases hu with rfl | rfl <;> rfl⟩
theorem rng_info : (Tryz.prog.info? 40).map (fun i => (i.zero, i.size, i.bytes)) = some (some (.agg #[.int .i64 0, .int .i64 0]), 2, 16) := by kernel_rfl
theorem rng_elem : Elem Tryz.prog 52 40 2 16 := by
  obtain ⟨i0, h0, h1, h2, h3⟩ := info_parts rng_info
  exact ⟨Tryz.underlying52, i0, _, h0, h1, h2, h3, rfl⟩
theorem run_eq_rng (a1 a2 b1 b2 : Int) (w : World) : (Op.equalIn 10000 40 (.agg #[.int .i64 a1, .int .i64 a2]) (.agg #[.int .i64 b1, .int .i64 b2])).run Tryz.prog w = .ok (eq2 a1 a2 b1 b2) w := by
  by_cases h1 : a1 = b1 <;> by_cases h2 : a2 = b2 <;> simp [go_sem, eq2, h1, h2]
attribute [go_sem 2000] run_eq_rng

theorem cmpR_lt (a b : Rng) : ltOf D.cmpR a b = decide (a.lo < b.lo) := by
  unfold ltOf D.cmpR cmpI
  by_cases h1 : a.lo < b.lo <;> by_cases h2 : b.lo < a.lo <;> simp [h1, h2]
theorem swo_rng : SWO (ltOf D.cmpR) := by
  refine ⟨fun a => by rw [cmpR_lt]; simp, fun a b c h1 h2 => ?_, fun a b c h1 h2 => ?_⟩
  · rw [cmpR_lt] at *; simp only [decide_eq_true_eq] at *; omega
  · rw [cmpR_lt] at *; simp only [decide_eq_false_iff_not] at *; omega
theorem sortRng_c {w : World} {B : Nat} {v : Value} {l : List Rng} (h : w.ownsRow B 40 2 v l.length (l.map Rng.cells).flatten) (hl : l.length ≤ 1000000) :
    Calls Tryz.prog 79 #[v, .func (.func 80) #[] #[]] w fun en w' => en = .returned (.tuple #[]) ∧ Keep (fun q => v.ownBlock = some q) w w' ∧ ∃ l' : List Rng, l'.Perm l ∧ l'.Pairwise (fun x y => ltOf D.cmpR y x = false) ∧ w'.ownsRow B 40 2 v l'.length (l'.map Rng.cells).flatten :=
  sort_c (P := Tryz.prog) Tryz.sortRange Tryz.isAgg40 Tryz.sizeOf40 rng_coded.len rng_coded.one D.cmpR swo_rng 80 (fun _ _ => run_callFunc Tryz.func80 (by kernel_rfl) (by kernel_rfl)) (fun W x y => D.lo_g x y W) h hl

set_option maxHeartbeats 400000 in
theorem clean_c (r : Rng) (w : World) : Calls Tryz.prog 78 #[r.val] w (Ret (cleanR r).val w) := by
  unfold Rng.val cleanR
  go_enter Tryz.func78, Tryz.ntmps78
  go_wp2_with fail
  exact bodyPost_ret (v := .agg #[.int .i64 (max r.lo 0), .int .i64 (min r.hi 200)]) (by simp [results, Tryz.results78, go_sem]) rfl ⟨rfl, ((Ext.refl _).alloc' _).alloc' _⟩
set_option maxHeartbeats 400000 in
theorem has_c (r : Rng) (w : World) : Calls Tryz.prog 77 #[r.val] w (Ret (.bool (hasR r)) w) := by
  have H := fun W => hid (clean_c r W)
  unfold hasR
  generalize cleanR r = q at H ⊢
  unfold Rng.val at *
  go_enter Tryz.func77, Tryz.ntmps77
  go_wp2_with (go_at_call 78; refine (H _).out.mono ?_; rintro e w1 ⟨rfl, hx⟩; have hb := (Blk.new w 40 #[.int .i64 r.lo, .int .i64 r.hi]).ext hx; have c0 := hb.cell (i := 0) (v := .int .i64 r.lo) rfl; have c1 := hb.cell (i := 1) (v := .int .i64 r.hi) rfl; have f0 := hb.frozen 0; have f1 := hb.frozen 1; have lb := hb.lt; have HX := hid hx; clear hx hb)
  go_ret
  exact ⟨rfl, (((Ext.alloc _ _).trans HX.out).setCell' (Nat.le_refl _) _).setCell' (Nat.le_refl _) _⟩
end Go.Proofs.YtggbkjmedoooaaaGreatDoor.Sz
namespace Go.Proofs.YtggbkjmedoooaaaGreatDoor.Sz
open Go.RowKit Go.Sort

/-- The last element's second cell is set. -/
theorem row_last {w : World} {B g cap : Nat} {e : TypeId} {acc : List Rng} {t : Rng} (h : w.ownsRow B e 2 (.slice (some ⟨g, 0, none⟩) (acc ++ [t]).length cap) (acc ++ [t]).length ((acc ++ [t]).map Rng.cells).flatten) (z : Int) :
    (w.setCell ⟨g, acc.length * 2 + 1, none⟩ (.int .i64 z)).ownsRow B e 2 (.slice (some ⟨g, 0, none⟩) (acc ++ [t]).length cap) (acc ++ [Rng.mk t.lo z]).length ((acc ++ [Rng.mk t.lo z]).map Rng.cells).flatten := by
  have hl : (acc ++ [t]).length = (acc ++ [Rng.mk t.lo z]).length := by simp
  rcases h.2 with ⟨hv, _⟩ | ⟨g', cap', cs, hv, hb, hg, h1, h2, h3, h4⟩
  · cases hv
  · injection hv with e1 e2 e3
    injection e1 with e1
    injection e1 with e1
    subst e1 e3
    have hB : Blk w g e cs := hg
    refine ⟨rng_coded.flat_len _, .inr ⟨g, cap, cs.setIfInBounds (acc.length * 2 + 1) (.int .i64 z), by rw [hl], hb, hB.set _ _, by rw [← hl]; exact h1, h2, by simpa using h3, ?_⟩⟩
    rw [← hl, Array.toList_setIfInBounds, List.take_set, h4, List.map_append, List.flatten_append, List.map_append, List.flatten_append, List.set_append_right _ _ (by rw [rng_coded.flat_len]; omega), rng_coded.flat_len]
    congr 1
    rw [show acc.length * 2 + 1 - acc.length * 2 = 1 by omega]
    simp [Rng.cells]

theorem mrgAll_none {m : List Rng} (h : mrgAll m = []) : m.length = 0 := by
  rcases List.eq_nil_or_concat m with rfl | ⟨m', r, rfl⟩
  · rfl
  · rw [List.concat_eq_append] at h
    have e : mrgAll (m' ++ [r]) = mrg (mrgAll m') r := by unfold mrgAll; rw [List.foldl_append]; rfl
    rw [e] at h
    unfold mrg at h
    split at h
    · split at h <;> simp at h
    · simp at h
def Fresh (w : World) (v : Value) : Prop := ∀ b o n c, v = .slice (some ⟨b, o, none⟩) n c → w.heap.size ≤ b
theorem Fresh.early {w w' : World} {v : Value} (h : Fresh w' v) (he : Ext w w') : Fresh w v := fun b o n c e => Nat.le_trans he.size (h b o n c e)
set_option maxRecDepth 100000 in
set_option maxHeartbeats 4000000 in
theorem norm_f (w : World) (v : Value) (l : List Rng) (h : Sl w 2 v (l.map Rng.cells)) (hl : l.length ≤ 100000) : Calls Tryz.prog 62 #[v] w (RetQ (fun v' w' => RowAt Rng.cells 2 (nf (sizes l)) v' w' ∧ Fresh w v') w) := by
  obtain ⟨A, c, rfl, h1, h2, h3⟩ := sl_get h
  unfold maxLen at h2
  clear h
  go_enter Tryz.func62, Tryz.ntmps62
  go_wp2_with fail
  go_loopw [3, 12] (fun v i wr => ∃ k : Nat, k ≤ l.length ∧ i = .int .i64 k ∧ Ext w wr ∧ wr.ownsRow w.heap.size 40 2 v (preR (l.take k)).length ((preR (l.take k)).map Rng.cells).flatten) (fun _ i _ => l.length - (intOf i).toNat)
  case atStart => exact ⟨0, by omega, rfl, Ext.refl _, ownsRow_nil _ _ _ _⟩
  case round =>
    obtain ⟨k, hk, rfl, hE, hO⟩ := hrel
    by_cases hlt : k < l.length
    · obtain ⟨b', o, rfl, lb, hcell⟩ := h3 (by omega)
      have c0 := hE.cell (hcell k hlt 0 _ rfl)
      have c1 := hE.cell (hcell k hlt 1 _ rfl)
      rw [Nat.add_zero] at c0
      have lbr := Nat.lt_of_lt_of_le lb hE.size
      have HS := hid (preR_take l k hlt)
      have HL : Hid ((preR (l.take k)).length ≤ 1000000) := by
        have h2 := preR_len (l.take k)
        rw [List.length_take] at h2
        unfold Hid
        omega
      have HE := hid hE
      have HO := hid hO
      clear hE hO hcell h3
      generalize l[k] = z at c0 c1 HS
      generalize preR (l.take k) = acc at HS HL HO
      have HH := fun W => hid (has_c z W)
      have HC := fun W => hid (clean_c z W)
      generalize cleanR z = q at HS HC
      unfold Rng.val at HH HC
      cases hz : hasR z with
      | true =>
        rw [hz] at HH HS
        go_wp2_with (first
          | (go_at_call 78; have tok := HX1; clear tok; refine (HC _).out.mono ?_; rintro e w2 ⟨rfl, hx⟩; have hE2 := HX1.out.trans hx; obtain ⟨v', w3, hrun, ho3, hk3, _⟩ := app_one (P := Tryz.prog) rng_elem rng_coded (ownsRow_ext HO.out hE2) (HE.out.trans hE2).size q HL.out (by omega); unfold Rng.cells at hrun; have HO3 := hid ho3; have HE3 : Hid (Ext w w3) := hk3.toExt (HE.out.trans hE2) (fun q hq => (row_block HO.out q hq).1); clear hx hE2 ho3 hk3)
          | (go_at_call 77; refine (HH _).out.mono ?_; rintro e w1 ⟨rfl, hx⟩; have hb := (Blk.new wr 40 #[.int .i64 z.lo, .int .i64 z.hi]).ext hx; have d0 := hb.cell (i := 0) (v := .int .i64 z.lo) rfl; have d1 := hb.cell (i := 1) (v := .int .i64 z.hi) rfl; have ld := hb.lt; have HX1 := hid ((Ext.alloc wr (.cells #[.int .i64 z.lo, .int .i64 z.hi] 40)).trans hx); clear hx hb)
          | (at_builtin; refine wpList_app rfl (.tmp 18) (.tmp 21) _ _ rfl rfl rfl hrun ?_))
        go_roundw
        case rel => exact ⟨k + 1, by omega, by go_num, HE3.out, by rw [HS.out, if_pos trivial]; exact HO3.out⟩
        case measure => simp [intOf]; omega
      | false =>
        rw [hz] at HH HS
        go_wp2_with (go_at_call 77; refine (HH _).out.mono ?_; rintro e w1 ⟨rfl, hx⟩; have HX1 := hid ((Ext.alloc wr (.cells #[.int .i64 z.lo, .int .i64 z.hi] 40)).trans hx); clear hx)
        go_roundw
        case rel => exact ⟨k + 1, by omega, by go_num, HE.out.trans HX1.out, by rw [HS.out, if_neg (by simp)]; exact ownsRow_ext HO.out HX1.out⟩
        case measure => simp [intOf]; omega
    · obtain rfl : k = l.length := by omega
      rw [List.take_length] at hO
      have HE := hid hE
      have hpl := preR_len l
      have HO := hid hO
      clear hE hO h3
      go_wp2_with (go_at_call 79; refine (sortRng_c HO.out (by omega)).mono ?_; rintro e w2 ⟨rfl, k2, m, hp, hs, ho2⟩; have K2 := hid k2; have P2 := hid hp; have S2 := hid hs; obtain ⟨A3, c3, hu, q1, q2, q3⟩ := sl_get (sl_of_row (xs := m.map Rng.cells) (rng_coded.sizes m) (by rw [List.length_map]; exact ho2)); have HO3 := hid ho2; subst hu; clear k2 hp hs ho2)
      unfold maxLen at q2
      have hE2 : Ext w w2 := K2.out.toExt HE.out (fun q hq => (row_block HO.out q hq).1)
      have hsort : m.Pairwise (fun x y => x.lo ≤ y.lo) := S2.out.imp fun h => by rw [cmpR_lt] at h; simp at h; exact h
      obtain ⟨hn1, hn2, hn3⟩ := mrgAll_nf P2.out hsort
      have hok : ∀ r ∈ m, Ok1 r := fun r hr => preR_ok l r (P2.out.mem_iff.1 hr)
      have hml : m.length ≤ l.length := by rw [P2.out.length_eq]; exact hpl
      have HPre : Hid (∀ k, k ≤ m.length → (mrgAll (m.take k)).length ≤ k ∧ ∀ t ∈ mrgAll (m.take k), Ok1 t) := fun k hk => by
        obtain ⟨g1, _, g3⟩ := foldl_mrg (m.take k) [] IsForm.nil (fun t ht => by cases ht) (hsort.sublist (List.take_sublist _ _)) (fun r hr => hok r (List.mem_of_mem_take hr))
        refine ⟨?_, g1.ok⟩
        have : (List.take k m).length ≤ k := List.length_take_le _ _
        unfold mrgAll
        simp only [List.length_nil, Nat.zero_add] at g3
        omega
      have HE2 := hid hE2
      have HN := hid hn1
      have HOk := hid hok
      clear hE2 hsort hn1 hn2 hn3 hok HO K2 P2 S2 HE hpl
      go_loopw [4, 28] (fun v i wr => ∃ k : Nat, k ≤ m.length ∧ i = .int .i64 k ∧ Ext w2 wr ∧ (k = 0 → v = .slice none 0 0) ∧ wr.ownsRow w2.heap.size 40 2 v (mrgAll (m.take k)).length ((mrgAll (m.take k)).map Rng.cells).flatten) (fun _ i _ => m.length - (intOf i).toNat)
      case atStart => exact ⟨0, by omega, rfl, Ext.refl _, (fun _ => rfl), ownsRow_nil _ _ _ _⟩
      case round =>
        obtain ⟨k, hk, rfl, hE, hz0, hO⟩ := hrel
        have HZ0 := hid hz0
        clear hz0
        by_cases hlt : k < m.length
        · obtain ⟨b', o, rfl, lb, hcell⟩ := q3 (by omega)
          have c0 := hE.cell (hcell k hlt 0 _ rfl)
          have c1 := hE.cell (hcell k hlt 1 _ rfl)
          rw [Nat.add_zero] at c0
          have lbr := Nat.lt_of_lt_of_le lb hE.size
          have HS := hid (mrgAll_take m k hlt)
          obtain ⟨p1, p2⟩ := HPre.out k hk
          have hokz := HOk.out _ (List.getElem_mem hlt)
          have HE := hid hE
          have HO := hid hO
          clear hE hO hcell q3
          generalize m[k] = z at c0 c1 HS hokz
          generalize mrgAll (m.take k) = acc at HS HO p1 p2
          unfold Ok1 at hokz
          have HB : Hid (∀ W, Ext (wr.alloc (.cells #[.int .i64 z.lo, .int .i64 z.hi] 40)) W → W.cell? ⟨wr.heap.size, 0, none⟩ = some (.int .i64 z.lo) ∧ W.cell? ⟨wr.heap.size, 1, none⟩ = some (.int .i64 z.hi) ∧ wr.heap.size < W.heap.size) := fun W hW => by
            have hb := (Blk.new wr 40 #[.int .i64 z.lo, .int .i64 z.hi]).ext hW
            exact ⟨hb.cell rfl, hb.cell rfl, hb.lt⟩
          rcases List.eq_nil_or_concat acc with rfl | ⟨acc', t, rfl⟩
          · rw [mrg_nil] at HS
            obtain ⟨A4, c4, hu4, _⟩ := sl_get (sl_of_row (xs := ([] : List Rng).map Rng.cells) (rng_coded.sizes []) HO.out)
            subst hu4
            go_wp2_with fail
            refine wp_region_any_order (by kernel_rfl) (by kernel_rfl) (by kernel_rfl) ?_
            repeat (first
              | (refine AWq.val rfl rfl rfl rfl (fun K hK => ?_); go_big_quiet_op; refine hK _ ?_; clear hK K)
              | (refine AWq.skip rfl rfl rfl ?_; simp only [Act.put, List.setIfInBounds_toArray, List.set_cons_succ, List.set_cons_zero]))
            refine AWq.done rfl rfl rfl (fun w5 x5 => ?_)
            simp only [closeAny, Act.put, List.setIfInBounds_toArray, List.set_cons_succ, List.set_cons_zero]
            obtain ⟨y0, y1, ly⟩ := HB.out _ x5
            have HE5 := hid ((Ext.alloc wr (.cells #[.int .i64 z.lo, .int .i64 z.hi] 40)).trans x5)
            obtain ⟨v', w4, hrun, ho4, hk4, _⟩ := app_one (P := Tryz.prog) rng_elem rng_coded (acc := ([] : List Rng)) (ownsRow_ext HO.out HE5.out) (HE.out.trans HE5.out).size z (by omega) (by omega)
            unfold Rng.cells at hrun
            have HO4 := hid ho4
            have HE4 : Hid (Ext w2 w4) := hk4.toExt (HE.out.trans HE5.out) (fun q hq => (row_block HO.out q hq).1)
            clear ho4 hk4 x5 HB
            go_wp2_with (at_builtin; refine wpList_app rfl (.tmp 62) (.tmp 64) _ _ rfl rfl rfl hrun ?_)
            go_roundw
            case rel => exact ⟨k + 1, by omega, by go_num, HE4.out, (fun h => by omega), by rw [HS.out]; exact HO4.out⟩
            case measure => simp [intOf]; omega
          · rw [List.concat_eq_append] at *
            rw [mrg_snoc] at HS
            have hokt := p2 t (by simp)
            unfold Ok1 at hokt
            obtain ⟨N, hN⟩ : ∃ N, acc'.length = N := ⟨_, rfl⟩
            have hN1 : (acc' ++ [t]).length = N + 1 := by rw [List.length_append, hN]; rfl
            rcases HO.out.2 with ⟨_, h0⟩ | ⟨g, cap, cs, hu4, hb4, hg4, r1, r2, r3, r4⟩
            · omega
            · have hB4 : Blk wr g 40 cs := hg4
              have ct : wr.cell? ⟨g, N * 2 + 1, none⟩ = some (.int .i64 t.hi) := by
                refine hB4.cell ?_
                have e := rng_coded.flat_at (acc' ++ [t]) N 1 (by omega) (by omega)
                rw [← r4, List.getElem?_take, if_pos (by omega)] at e
                have e2 : (acc' ++ [t])[N]'(by omega) = t := by subst hN; simp
                rw [e2] at e
                simpa [Rng.cells] using e
              have fz := hB4.frozen (N * 2 + 1)
              have lg := hB4.lt
              rw [hN1] at hu4 r1
              subst hu4
              have HN1 := hid hN1
              have HNN := hid hN
              have HFz : Hid (∀ W, Ext wr W → W.frozen? ⟨g, N * 2 + 1, none⟩ = false) := fun W hW => (hB4.ext hW).frozen _
              unfold maxLen at r2
              clear hN1 hN hB4 hg4 r3 r4 p2
              by_cases hm : z.lo ≤ t.hi + 1
              · rw [if_pos hm] at HS
                go_wp2_with fail
                refine wp_region_any_order (by kernel_rfl) (by kernel_rfl) (by kernel_rfl) ?_
                repeat (first
                  | (refine AWq.val rfl rfl rfl rfl (fun K hK => ?_); go_big_quiet_op; refine hK _ ?_; clear hK K)
                  | (refine AWq.skip rfl rfl rfl ?_; simp only [Act.put, List.setIfInBounds_toArray, List.set_cons_succ, List.set_cons_zero]))
                refine AWq.done rfl rfl rfl (fun w5 x5 => ?_)
                simp only [closeAny, Act.put, List.setIfInBounds_toArray, List.set_cons_succ, List.set_cons_zero]
                obtain ⟨y0, y1, ly⟩ := HB.out _ x5
                have HE5 := hid ((Ext.alloc wr (.cells #[.int .i64 z.lo, .int .i64 z.hi] 40)).trans x5)
                have ct5 := HE5.out.cell ct
                have lg5 := Nat.lt_of_lt_of_le lg HE5.out.size
                clear x5 HB ct fz
                go_wp2_with fail
                refine wp_region_last (Rel.ext) (pre := ?pre4) (z := ?z4) ?hpre4 ?hz4 (Ext.steady _) (by kernel_rfl) (by kernel_rfl) (by kernel_rfl) (by kernel_rfl) ?_
                case hpre4 => (simp only [List.dropLast_cons_cons, List.dropLast_singleton]; first | done | exact rfl)
                case hz4 => (simp only [List.getLast?_cons_cons, List.getLast?_singleton]; first | done | exact rfl)
                repeat (first
                  | (refine AWq.val rfl rfl rfl rfl (fun K hK => ?_); go_big_quiet_op; refine hK _ ?_; clear hK K)
                  | (refine AWq.skip rfl rfl rfl ?_; simp only [Act.put, List.setIfInBounds_toArray, List.set_cons_succ, List.set_cons_zero]))
                refine AWq.last rfl rfl rfl (fun w6 x6 => ?_)
                simp only [closeAny, Act.put, List.setIfInBounds_toArray, List.set_cons_succ, List.set_cons_zero]
                have HE6 := hid (HE5.out.trans x6)
                have ct6 := x6.cell ct5
                have fz6 := HFz.out _ HE6.out
                have lg6 := Nat.lt_of_lt_of_le lg5 x6.size
                clear x6
                go_wp2_with fail
                go_roundw
                case rel =>
                  refine ⟨k + 1, by omega, by go_num, ?_, (fun h => by omega), ?_⟩
                  · exact (HE.out.trans HE6.out).setCell' hb4 _
                  · rw [HS.out]
                    have := row_last (acc := acc') (t := t) (g := g) (cap := cap) (by rw [HN1.out]; have := ownsRow_ext HO.out HE6.out; rw [HN1.out] at this; exact this) (max t.hi z.hi)
                    rw [HN1.out, HNN.out] at this
                    exact this
                case measure => simp [intOf]; omega
              · rw [if_neg hm] at HS
                have hm' : decide (z.lo ≤ t.hi + 1) = false := decide_eq_false hm
                clear hm
                go_wp2_with fail
                refine wp_region_any_order (by kernel_rfl) (by kernel_rfl) (by kernel_rfl) ?_
                repeat (first
                  | (refine AWq.val rfl rfl rfl rfl (fun K hK => ?_); go_big_quiet_op; refine hK _ ?_; clear hK K)
                  | (refine AWq.skip rfl rfl rfl ?_; simp only [Act.put, List.setIfInBounds_toArray, List.set_cons_succ, List.set_cons_zero]))
                refine AWq.done rfl rfl rfl (fun w5 x5 => ?_)
                simp only [closeAny, Act.put, List.setIfInBounds_toArray, List.set_cons_succ, List.set_cons_zero]
                clear hm'
                obtain ⟨y0, y1, ly⟩ := HB.out _ x5
                have HE5 := hid ((Ext.alloc wr (.cells #[.int .i64 z.lo, .int .i64 z.hi] 40)).trans x5)
                obtain ⟨v', w4, hrun, ho4, hk4, _⟩ := app_one (P := Tryz.prog) rng_elem rng_coded (acc := (acc' ++ [t])) (ownsRow_ext HO.out HE5.out) (HE.out.trans HE5.out).size z (by omega) (by omega)
                unfold Rng.cells at hrun
                have HO4 := hid ho4
                have HE4 : Hid (Ext w2 w4) := hk4.toExt (HE.out.trans HE5.out) (fun q hq => (row_block HO.out q hq).1)
                clear ho4 hk4 x5 HB
                go_wp2_with (at_builtin; refine wpList_app rfl (.tmp 62) (.tmp 64) _ _ rfl rfl rfl hrun ?_)
                go_roundw
                case rel => exact ⟨k + 1, by omega, by go_num, HE4.out, (fun h => by omega), by rw [HS.out]; exact HO4.out⟩
                case measure => simp [intOf]; omega
        · obtain rfl : k = m.length := by omega
          rw [List.take_length] at hO
          have HO := hid hO
          have HE := hid hE
          have hnil : Hid ((nf (sizes l)).length = 0 → u4 = .slice none 0 0) := fun h0 => HZ0.out (mrgAll_none (by rw [HN.out]; exact List.eq_nil_of_length_eq_zero h0))
          have HFr : Hid (Fresh w u4) := fun b o n c e => Nat.le_trans HE2.out.size (row_block HO.out b (by rw [e]; rfl)).1
          clear hO hE q3
          go_wp2_with fail
          go_ret
          refine ⟨_, rfl, ?_, HE2.out.trans HE.out⟩
          rw [HN.out] at HO
          exact ⟨RowAt.of_row rng_coded HO.out hnil.out, HFr.out⟩
theorem norm_c (w : World) (v : Value) (l : List Rng) (h : Sl w 2 v (l.map Rng.cells)) (hl : l.length ≤ 100000) : Calls Tryz.prog 62 #[v] w (RetQ (RowAt Rng.cells 2 (nf (sizes l))) w) :=
  (norm_f w v l h hl).mono fun e w' ⟨v', he, hr, hx⟩ => ⟨v', he, hr.1, hx⟩
end Go.Proofs.YtggbkjmedoooaaaGreatDoor.Sz
namespace Go.Proofs.YtggbkjmedoooaaaGreatDoor.Sz
open Go.RowKit

def inB (r : Rng) (n : Int) : Bool := decide (r.lo ≤ n ∧ n ≤ r.hi)
def holdsB (l : List Rng) (n : Int) : Bool := decide (0 ≤ n ∧ n ≤ 200) && l.any fun r => inB r n
theorem holdsB_iff (l : List Rng) (n : Int) : holdsB l n = true ↔ sizes l n := by
  unfold holdsB sizes memS inB inR
  simp [and_assoc]
theorem holdsB_hit {l : List Rng} {n : Int} {k : Nat} (h : k < l.length) (h0 : 0 ≤ n ∧ n ≤ 200) (hin : l[k].lo ≤ n ∧ n ≤ l[k].hi) : holdsB l n = true := (holdsB_iff l n).2 ⟨h0.1, h0.2, l[k], List.getElem_mem h, hin⟩
theorem holdsB_none {l : List Rng} {n : Int} (h : ∀ r ∈ l, ¬ (0 ≤ n ∧ n ≤ 200 ∧ r.lo ≤ n ∧ n ≤ r.hi)) : holdsB l n = false := by
  rw [Bool.eq_false_iff, Ne, holdsB_iff]
  rintro ⟨h0, h1, r, hr, h2, h3⟩
  exact h r hr ⟨h0, h1, h2, h3⟩
theorem none_take {l : List Rng} {n : Int} {k : Nat} (h : k < l.length) (hno : ∀ r ∈ l.take k, ¬ (0 ≤ n ∧ n ≤ 200 ∧ r.lo ≤ n ∧ n ≤ r.hi)) (he : ¬ (0 ≤ n ∧ n ≤ 200 ∧ l[k].lo ≤ n ∧ n ≤ l[k].hi)) : ∀ r ∈ l.take (k + 1), ¬ (0 ≤ n ∧ n ≤ 200 ∧ r.lo ≤ n ∧ n ≤ r.hi) := fun y hy => by
  rw [List.take_succ_eq_append_getElem h] at hy
  rcases List.mem_append.1 hy with hy | hy
  · exact hno y hy
  · rw [List.mem_singleton.1 hy]; exact he

set_option maxRecDepth 100000 in
set_option maxHeartbeats 2000000 in
theorem rholds_c (w : World) (v : Value) (l : List Rng) (n : Int) (h : Sl w 2 v (l.map Rng.cells)) : Calls Tryz.prog 64 #[v, .int .i64 n] w (Ret (.bool (holdsB l n)) w) := by
  obtain ⟨A, c, rfl, h1, h2, h3⟩ := sl_get h
  unfold maxLen at h2
  have R1 : Hid (∀ k (h : k < l.length), 0 ≤ n ∧ n ≤ 200 → (l[k].lo ≤ n ∧ n ≤ l[k].hi) → holdsB l n = true) := fun k => holdsB_hit
  have R2 : Hid ((∀ r ∈ l, ¬ (0 ≤ n ∧ n ≤ 200 ∧ r.lo ≤ n ∧ n ≤ r.hi)) → holdsB l n = false) := holdsB_none
  generalize holdsB l n = r at R1 R2 ⊢
  clear h
  go_enter Tryz.func64, Tryz.ntmps64
  go_wp2_with fail
  go_loopw [5] (fun i wr => ∃ k : Nat, k ≤ l.length ∧ i = .int .i64 k ∧ Ext w wr ∧ Hid (∀ y ∈ l.take k, ¬ (0 ≤ n ∧ n ≤ 200 ∧ y.lo ≤ n ∧ n ≤ y.hi))) (fun i _ => l.length - (intOf i).toNat)
  case atStart => exact ⟨0, by omega, rfl, Ext.refl _, fun y hy => by simp at hy⟩
  case round =>
    obtain ⟨k, hk, rfl, hE, hno⟩ := hrel
    by_cases hlt : k < l.length
    · obtain ⟨b, o, rfl, lb, hcell⟩ := h3 (by omega)
      have c0 := hE.cell (hcell k hlt 0 _ rfl)
      have c1 := hE.cell (hcell k hlt 1 _ rfl)
      rw [Nat.add_zero] at c0
      have lbr := Nat.lt_of_lt_of_le lb hE.size
      have HE := hid hE
      have HN2 := hid (none_take (n := n) hlt hno.out)
      have R3 := hid (R1.out k hlt)
      clear hcell h3 hE
      generalize l[k] = z at c0 c1 HN2 R3
      go_wp2_with fail
      all_goals first
        | (go_roundw
           case rel => exact ⟨k + 1, by omega, by go_num, HE.out, HN2.out (by omega)⟩
           case measure => simp [intOf]; omega)
        | (go_ret
           obtain rfl := R3.out (by omega) (by omega)
           exact ⟨rfl, HE.out⟩)
    · obtain rfl : k = l.length := by omega
      have HE := hid hE
      rw [List.take_length] at hno
      obtain rfl := R2.out hno.out
      clear hE h3 hno
      go_wp2_with fail
      go_ret
      exact ⟨rfl, HE.out⟩

def bitC (b : Bool) : List Value := [.bool b]
theorem bit_coded : Coded bitC 1 := ⟨fun _ => rfl, fun a u hu => by simp [bitC] at hu; subst hu; rfl⟩
theorem bit_info : (Tryz.prog.info? 4).map (fun i => (i.zero, i.size, i.bytes)) = some (some (.bool false), 1, 1) := by kernel_rfl
theorem bit_elem : Elem Tryz.prog 77 4 1 1 := by
  obtain ⟨i0, h0, h1, h2, h3⟩ := info_parts bit_info
  exact ⟨Tryz.underlying77, i0, _, h0, h1, h2, h3, rfl⟩
def upTo (f : Int → Bool) (k : Nat) : List Bool := (List.range k).map fun n : Nat => f (n : Int)
theorem upTo_len (f : Int → Bool) (k : Nat) : (upTo f k).length = k := by simp [upTo]
theorem upTo_succ (f : Int → Bool) (k : Nat) : upTo f (k + 1) = upTo f k ++ [f k] := by simp [upTo, List.range_succ]

set_option maxRecDepth 100000 in
set_option maxHeartbeats 2000000 in
theorem rof8_c (w : World) (v : Value) (l : List Rng) (h : Sl w 2 v (l.map Rng.cells)) : Calls Tryz.prog 46 #[v] w (RetQ (fun v' w' => Sl w' 1 v' ((upTo (holdsB l) 201).map bitC)) w) := by
  have HH := fun W (hW : Ext w W) (n : Int) => hid (rholds_c W v l n (h.ext hW))
  obtain ⟨A, c, rfl, _⟩ := sl_get h
  have HL := fun k => upTo_len (holdsB l) k
  have HS' := fun k => hid (upTo_succ (holdsB l) k)
  clear h
  go_enter Tryz.func46, Tryz.ntmps46
  go_wp2_with fail
  go_loopw [3, 4] (fun v i wr => ∃ k : Nat, k ≤ 201 ∧ i = .int .i64 k ∧ Ext w wr ∧ wr.ownsRow w.heap.size 4 1 v (upTo (holdsB l) k).length ((upTo (holdsB l) k).map bitC).flatten) (fun _ i _ => 201 - (intOf i).toNat)
  case atStart => exact ⟨0, by omega, rfl, Ext.refl _, ownsRow_nil _ _ _ _⟩
  case round =>
    obtain ⟨k, hk, rfl, hE, hO⟩ := hrel
    have HE := hid hE
    by_cases hlt : k < 201
    · have HO := hid hO
      have hlen := HL k
      have HS := HS' k
      clear hE hO HL HS'
      generalize upTo (holdsB l) k = acc at HO hlen HS
      have HHk := fun W (hW : Ext wr W) => HH W (HE.out.trans hW) k
      generalize holdsB l k = b at HS HHk
      have hacc : acc.length ≤ 1000000 := by omega
      clear hlen HH
      go_wp2_with (first
        | (go_at_call 64; refine (HHk _ (Ext.refl _)).out.mono ?_; rintro e w1 ⟨rfl, hx⟩; obtain ⟨v', w4, hrun, ho4, hk4, _⟩ := app_one (P := Tryz.prog) bit_elem bit_coded (ownsRow_ext HO.out hx) (HE.out.trans hx).size b hacc (by omega); unfold bitC at hrun; have HO4 := hid ho4; have HE4 : Hid (Ext w w4) := hk4.toExt (HE.out.trans hx) (fun q hq => (row_block HO.out q hq).1); clear ho4 hk4 hx)
        | (at_builtin; refine wpList_app rfl (.tmp 9) (.tmp 13) _ _ rfl rfl rfl hrun ?_))
      go_roundw
      case rel => exact ⟨k + 1, by omega, by go_num, HE4.out, by rw [HS.out]; exact HO4.out⟩
      case measure => simp [intOf]; omega
    · obtain rfl : k = 201 := by omega
      have HSl := hid (sl_of_row (xs := (upTo (holdsB l) 201).map bitC) (bit_coded.sizes _) (by rw [List.length_map]; exact hO))
      clear hE hO HL HS' HH
      go_wp2_with fail
      go_ret
      exact ⟨_, rfl, HSl.out, HE.out⟩

/-- The sizes of truths, one by one. -/
def setB (bs : List Bool) (n : Int) : Prop := 0 ≤ n ∧ bs[n.toNat]? = some true
structure FormAt (bs : List Bool) (k : Nat) (acc : List Rng) : Prop where
  form : IsForm acc
  mem : ∀ n, memS acc n ↔ setB bs n ∧ n < k
  last : ∀ t ∈ acc, t.hi + 1 = k → bs[k]? ≠ some true
theorem FormAt.start (bs : List Bool) : FormAt bs 0 [] := ⟨IsForm.nil, fun n => by rw [memS_nil]; unfold setB; constructor; exact False.elim; rintro ⟨⟨h, _⟩, h2⟩; omega, fun t ht => by cases ht⟩
theorem FormAt.hi {bs : List Bool} {k : Nat} {acc : List Rng} (h : FormAt bs k acc) {t : Rng} (ht : t ∈ acc) : t.hi < k := by
  have := h.form.ok t ht
  unfold Ok1 at this
  exact ((h.mem t.hi).1 ⟨t, ht, this.2.1, Int.le_refl _⟩).2
theorem FormAt.skip {bs : List Bool} {k : Nat} {acc : List Rng} (h : FormAt bs k acc) (hk : bs[k]? = some false) : FormAt bs (k + 1) acc := by
  refine ⟨h.form, fun n => ?_, fun t ht e => ?_⟩
  · rw [h.mem]
    unfold setB
    constructor
    · rintro ⟨h1, h2⟩; exact ⟨h1, by omega⟩
    · rintro ⟨⟨h0, h1⟩, h2⟩
      refine ⟨⟨h0, h1⟩, ?_⟩
      rcases Int.lt_or_le n k with h | h
      · exact h
      · have : n.toNat = k := by omega
        rw [this, hk] at h1; cases h1
  · have := h.hi ht; omega
theorem FormAt.run {bs : List Bool} {k j : Nat} {acc : List Rng} (h : FormAt bs k acc) (hl : bs.length ≤ 201) (hkj : k ≤ j) (hall : ∀ x, k ≤ x → x ≤ j → bs[x]? = some true) (hend : bs[j + 1]? ≠ some true) : FormAt bs (j + 1) (acc ++ [⟨k, j⟩]) := by
  have hj : j < bs.length := (List.getElem?_eq_some_iff.1 (hall j hkj (Nat.le_refl _))).1
  refine ⟨⟨fun t ht => ?_, List.pairwise_append.2 ⟨h.form.gap, List.pairwise_singleton _ _, fun a ha b hb => ?_⟩⟩, fun n => ?_, fun t ht e => hend⟩
  · rcases List.mem_append.1 ht with ht | ht
    · exact h.form.ok t ht
    · rw [List.mem_singleton.1 ht]
      unfold Ok1
      simp only
      omega
  · rw [List.mem_singleton.1 hb]
    have h1 := h.hi ha
    have h2 : a.hi + 1 ≠ k := fun e => h.last a ha e (hall k (Nat.le_refl _) hkj)
    simp only
    omega
  · rw [memS_append, h.mem, memS_cons, memS_nil, or_false]
    unfold setB inR
    simp only
    constructor
    · rintro (⟨h1, h2⟩ | ⟨h1, h2⟩)
      · exact ⟨h1, by omega⟩
      · exact ⟨⟨by omega, hall _ (by omega) (by omega)⟩, by omega⟩
    · rintro ⟨⟨h0, h1⟩, h2⟩
      rcases Int.lt_or_le n k with h | h
      · exact .inl ⟨⟨h0, h1⟩, h⟩
      · exact .inr ⟨h, by omega⟩
theorem FormAt.done {bs : List Bool} {acc : List Rng} (h : FormAt bs bs.length acc) : acc = nf (setB bs) := nf_is h.form fun n => by
  rw [h.mem]
  unfold setB
  constructor
  · exact fun h => h.1
  · rintro ⟨h0, h1⟩
    have := (List.getElem?_eq_some_iff.1 h1).1
    exact ⟨⟨h0, h1⟩, by omega⟩

set_option maxRecDepth 100000 in
set_option maxHeartbeats 4000000 in
theorem rform_f (w : World) (v : Value) (bs : List Bool) (h : Sl w 1 v (bs.map bitC)) (hl : bs.length ≤ 201) : Calls Tryz.prog 47 #[v] w (RetQ (fun v' w' => RowAt Rng.cells 2 (nf (setB bs)) v' w' ∧ Fresh w v') w) := by
  obtain ⟨A, c, rfl, h1, h2, h3⟩ := sl_get h
  unfold maxLen at h2
  clear h
  go_enter Tryz.func47, Tryz.ntmps47
  go_wp2_with fail
  go_loopw [3, 4] (fun v i wr => ∃ k : Nat, k ≤ bs.length ∧ i = .int .i64 k ∧ Ext w wr ∧ ∃ acc : List Rng, acc.length ≤ k ∧ (acc.length = 0 → v = .slice none 0 0) ∧ FormAt bs k acc ∧ wr.ownsRow w.heap.size 40 2 v acc.length (acc.map Rng.cells).flatten) (fun _ i _ => bs.length - (intOf i).toNat)
  case atStart => exact ⟨0, by omega, rfl, Ext.refl _, [], Nat.le_refl _, (fun _ => rfl), FormAt.start bs, ownsRow_nil _ _ _ _⟩
  case round =>
    obtain ⟨k, hk, rfl, hE, acc, hacc, hz, hF, hO⟩ := hrel
    have HE := hid hE
    have HZ := hid hz
    have HF := hid hF
    have HO := hid hO
    by_cases hlt : k < bs.length
    · obtain ⟨b, o, rfl, lb, hcell⟩ := h3 (by omega)
      have c0 := hE.cell (hcell k hlt 0 _ rfl)
      rw [Nat.add_zero, Nat.mul_one] at c0
      have HC := hid (fun (j : Nat) (hj : j < bs.length) => show wr.cell? ⟨b, o + j, none⟩ = some (.bool bs[j]) by
        have := hE.cell (hcell j hj 0 _ rfl)
        rwa [Nat.add_zero, Nat.mul_one] at this)
      have HK : Hid (bs[k]? = some bs[k]) := List.getElem?_eq_getElem hlt
      clear h3 hcell hE hz hF hO
      generalize bs[k] = x at c0 HK
      cases x with
      | false =>
        go_wp2_with fail
        go_roundw
        case rel => exact ⟨k + 1, by omega, by go_num, HE.out, acc, by omega, HZ.out, HF.out.skip HK.out, HO.out⟩
        case measure => simp [intOf]; omega
      | true =>
        go_wp2_with fail
        obtain ⟨wo, rfl⟩ : ∃ wo : World, wo = wr := ⟨_, rfl⟩
        go_loopw [4] (fun i wi => ∃ j : Nat, k ≤ j ∧ j < bs.length ∧ i = .int .i64 j ∧ wi = wo ∧ Hid (∀ x, k ≤ x → x ≤ j → bs[x]? = some true)) (fun i _ => bs.length - (intOf i).toNat)
        case atStart => exact ⟨k, Nat.le_refl _, hlt, rfl, rfl, fun x h1 h2 => by rw [show x = k by omega]; exact HK.out⟩
        case round =>
          obtain ⟨j, hkj, hj, rfl, rfl, hall⟩ := hrel
          by_cases hj1 : j + 1 < bs.length
          · have c1 := HC.out (j + 1) hj1
            have HJ : Hid (bs[j + 1]? = some bs[j + 1]) := List.getElem?_eq_getElem hj1
            rw [show o + (j + 1) = o + (j + 1) from rfl] at c1
            generalize bs[j + 1] = y at c1 HJ
            cases y with
            | true =>
              go_wp2_with fail
              go_roundw
              case rel => exact ⟨j + 1, by omega, hj1, by go_num, trivial, fun x h1 h2 => by
                by_cases e : x = j + 1
                · subst e; exact HJ.out
                · exact hall.out x h1 (by omega)⟩
              case measure => simp [intOf]; omega
            | false =>
              have HR := hid (HF.out.run hl hkj hall.out (by rw [HJ.out]; simp))
              obtain ⟨v', w4, hrun, ho4, hk4, _⟩ := app_one (P := Tryz.prog) rng_elem rng_coded HO.out HE.out.size ⟨k, j⟩ (by omega) (by omega)
              have HO4 := hid ho4
              have HE4 : Hid (Ext w w4) := hk4.toExt HE.out (fun q hq => (row_block HO.out q hq).1)
              unfold Rng.cells at hrun
              clear ho4 hk4 hall
              go_wp2_with (at_builtin; refine wpList_app rfl (.tmp 32) (.tmp 36) _ _ rfl rfl rfl hrun ?_)
              go_roundw
              case rel => exact ⟨j + 1, by omega, by go_num, HE4.out, _, by simp; omega, (fun h => by simp at h), HR.out, HO4.out⟩
              case measure => simp [intOf]; omega
          · have HR := hid (HF.out.run hl hkj hall.out (by rw [List.getElem?_eq_none (by omega)]; simp))
            obtain ⟨v', w4, hrun, ho4, hk4, _⟩ := app_one (P := Tryz.prog) rng_elem rng_coded HO.out HE.out.size ⟨k, j⟩ (by omega) (by omega)
            have HO4 := hid ho4
            have HE4 : Hid (Ext w w4) := hk4.toExt HE.out (fun q hq => (row_block HO.out q hq).1)
            unfold Rng.cells at hrun
            clear ho4 hk4 hall
            go_wp2_with (at_builtin; refine wpList_app rfl (.tmp 32) (.tmp 36) _ _ rfl rfl rfl hrun ?_)
            go_roundw
            case rel => exact ⟨j + 1, by omega, by go_num, HE4.out, _, by simp; omega, (fun h => by simp at h), HR.out, HO4.out⟩
            case measure => simp [intOf]; omega
    · obtain rfl : k = bs.length := by omega
      have HQ := hid hF.done
      have HFr : Hid (Fresh w u3) := fun b o n c e => (row_block HO.out b (by rw [e]; rfl)).1
      clear h3 hE hz hF hO
      go_wp2_with fail
      go_ret
      exact ⟨_, rfl, ⟨by rw [← HQ.out]; exact RowAt.of_row rng_coded HO.out HZ.out, HFr.out⟩, HE.out⟩
theorem rform_c (w : World) (v : Value) (bs : List Bool) (h : Sl w 1 v (bs.map bitC)) (hl : bs.length ≤ 201) : Calls Tryz.prog 47 #[v] w (RetQ (RowAt Rng.cells 2 (nf (setB bs))) w) :=
  (rform_f w v bs h hl).mono fun e w' ⟨v', he, hr, hx⟩ => ⟨v', he, hr.1, hx⟩
end Go.Proofs.YtggbkjmedoooaaaGreatDoor.Sz
namespace Go.Proofs.YtggbkjmedoooaaaGreatDoor.Sz
open Go.RowKit

theorem upTo_get (f : Int → Bool) (N k : Nat) (h : k < (upTo f N).length) : (upTo f N)[k] = f k := by simp [upTo]
theorem setB_upTo (f : Int → Bool) (n : Int) : setB (upTo f 201) n ↔ 0 ≤ n ∧ n ≤ 200 ∧ f n = true := by
  unfold setB
  constructor
  · rintro ⟨h0, h1⟩
    obtain ⟨h2, h3⟩ := List.getElem?_eq_some_iff.1 h1
    rw [upTo_get] at h3
    rw [upTo_len] at h2
    rw [show ((n.toNat : Nat) : Int) = n by omega] at h3
    exact ⟨h0, by omega, h3⟩
  · rintro ⟨h0, h1, h2⟩
    refine ⟨h0, List.getElem?_eq_some_iff.2 ⟨by rw [upTo_len]; omega, ?_⟩⟩
    rw [upTo_get, show ((n.toNat : Nat) : Int) = n by omega]
    exact h2
theorem holds_out (l : List Rng) (n : Int) (h : holdsB l n = true) : 0 ≤ n ∧ n ≤ 200 := by
  have := (holdsB_iff l n).1 h
  exact ⟨this.1, this.2.1⟩

theorem sl_upTo {f : Int → Bool} {w : World} {v : Value} (h : Sl w 1 v ((upTo f 201).map bitC)) : ∃ b o c, v = .slice (some ⟨b, o, none⟩) 201 c ∧ 201 ≤ c ∧ c ≤ maxLen ∧ b < w.heap.size ∧ ∀ k : Nat, k < 201 → w.cell? ⟨b, o + k, none⟩ = some (.bool (f k)) := by
  obtain ⟨A, c, h1, h2, h3, h4⟩ := sl_get h
  have hl := upTo_len f 201
  obtain ⟨b, o, h5, h6, h7⟩ := h4 (by omega)
  rw [hl] at h1 h2
  refine ⟨b, o, c, by rw [h1, h5], h2, h3, h6, fun k hk => ?_⟩
  have := h7 k (by omega) 0 _ rfl
  rw [Nat.add_zero, Nat.mul_one, upTo_get] at this
  exact this
set_option maxRecDepth 100000 in
set_option maxHeartbeats 4000000 in
theorem rtwo2_f (w : World) (v u : Value) (a b : List Rng) (h : Sl w 2 v (a.map Rng.cells)) (hb : Sl w 2 u (b.map Rng.cells)) : Calls Tryz.prog 27 #[v, u, .int .i64 2] w (RetQ (fun v' w' => RowAt Rng.cells 2 (nf fun n => sizes a n ∧ ¬ sizes b n) v' w' ∧ Fresh w v') w) := by
  have HO1 := hid (rof8_c w v a h)
  have HO2 := fun W (hW : Ext w W) => hid (rof8_c W u b (hb.ext hW))
  have HLn := fun k => upTo_len (fun n => (fun x y => x && !y) (holdsB a n) (holdsB b n)) k
  have HSs := fun k => hid (upTo_succ (fun n => (fun x y => x && !y) (holdsB a n) (holdsB b n)) k)
  have HFm := fun W (u : Value) (hs : Sl W 1 u ((upTo (fun n => (fun x y => x && !y) (holdsB a n) (holdsB b n)) 201).map bitC)) => hid (rform_f W u _ hs (by rw [upTo_len]; omega))
  have hset : nf (setB (upTo (fun n => (fun x y => x && !y) (holdsB a n) (holdsB b n)) 201)) = nf (fun n => sizes a n ∧ ¬ sizes b n) := nf_congr fun n => by
    rw [setB_upTo]
    have e1 := holdsB_iff a n
    have e2 := holdsB_iff b n
    have e3 := holds_out a n
    have e4 := holds_out b n
    rw [← e1, ← e2]
    cases h1 : holdsB a n <;> cases h2 : holdsB b n <;> simp_all
  rw [hset] at HFm
  obtain ⟨A, c, rfl, _⟩ := sl_get h
  obtain ⟨A', c', rfl, _⟩ := sl_get hb
  clear h hb hset
  go_enter Tryz.func27, Tryz.ntmps27
  go_wp2_with (first
    | (go_at_call 46; have tok := HX1; clear tok; refine (HO2 _ HX1.out).out.mono ?_; rintro e w2 ⟨y, rfl, hy, hx2⟩; have HX2 := hid (HX1.out.trans hx2); have HSx := hid (Hx.out.ext hx2); have HSy := hid hy; clear hy hx2)
    | (go_at_call 46; refine (HO1.out).mono ?_; rintro e w1 ⟨x, rfl, hx, hx1⟩; have HX1 := hid hx1; have Hx := hid hx; clear hx hx1))
  obtain ⟨b1, o1, c1, hxv, x1, x2, lb1, hc1⟩ := sl_upTo HSx.out
  obtain ⟨b2, o2, c2, hyv, y1, y2, lb2, hc2⟩ := sl_upTo HSy.out
  subst hxv hyv
  unfold maxLen at x2 y2
  clear HO1 HO2 Hx HSx HSy
  go_loopw [9, 10] (fun v i wr => ∃ k : Nat, k ≤ 201 ∧ i = .int .i64 k ∧ Ext w2 wr ∧ wr.ownsRow w2.heap.size 4 1 v (upTo (fun n => (fun x y => x && !y) (holdsB a n) (holdsB b n)) k).length ((upTo (fun n => (fun x y => x && !y) (holdsB a n) (holdsB b n)) k).map bitC).flatten) (fun _ i _ => 201 - (intOf i).toNat)
  case atStart => exact ⟨0, by omega, rfl, Ext.refl _, ownsRow_nil _ _ _ _⟩
  case round =>
    obtain ⟨k, hk, rfl, hE, hO⟩ := hrel
    have HE := hid hE
    by_cases hlt : k < 201
    · have HO := hid hO
      have hlen := HLn k
      have HS := HSs k
      have d1 := hE.cell (hc1 k hlt)
      have d2 := hE.cell (hc2 k hlt)
      clear hE hO HLn HSs hc1 hc2
      generalize upTo (fun n => (fun x y => x && !y) (holdsB a n) (holdsB b n)) k = acc at HO hlen HS
      generalize holdsB a k = X at HS d1
      generalize holdsB b k = Y at HS d2
      obtain ⟨v', w4, hrun, ho4, hk4, _⟩ := app_one (P := Tryz.prog) bit_elem bit_coded HO.out HE.out.size ((fun x y => x && !y) X Y) (by omega) (by omega)
      have HO4 := hid ho4
      have HE4 : Hid (Ext w2 w4) := hk4.toExt HE.out (fun q hq => (row_block HO.out q hq).1)
      unfold bitC at hrun
      clear ho4 hk4 hlen
      cases X <;> cases Y
      all_goals
        simp only [Bool.and_true, Bool.and_false, Bool.or_true, Bool.or_false, Bool.not_true, Bool.not_false] at hrun HS HO4
        go_wp2_with (at_builtin; refine wpList_app rfl (.tmp 55) (.tmp 57) _ _ rfl rfl rfl hrun ?_)
        go_roundw
        case rel => exact ⟨k + 1, by omega, by go_num, HE4.out, by rw [HS.out]; exact HO4.out⟩
        case measure => simp [intOf]; omega
    · obtain rfl : k = 201 := by omega
      have HF := HFm wr u9 (sl_of_row (bit_coded.sizes _) (by rw [List.length_map]; exact hO))
      clear hE hO HFm HLn HSs hc1 hc2
      go_wp2_with (go_at_call 47; refine (HF.out).mono ?_; rintro e w5 ⟨v5, rfl, hv5, hx5⟩; have HV5 := hid hv5; have HX5 := hid hx5; clear hv5 hx5)
      go_ret
      exact ⟨_, rfl, ⟨HV5.out.1, HV5.out.2.early (HX2.out.trans HE.out)⟩, HX2.out.trans (HE.out.trans HX5.out)⟩

end Go.Proofs.YtggbkjmedoooaaaGreatDoor.Sz
namespace Go.Proofs.YtggbkjmedoooaaaGreatDoor.Sz
open Go.RowKit

theorem sizes_append (a b : List Rng) (n : Int) : sizes (a ++ b) n ↔ sizes a n ∨ sizes b n := by
  unfold sizes
  rw [memS_append]
  constructor
  · rintro ⟨h0, h1, h | h⟩
    · exact .inl ⟨h0, h1, h⟩
    · exact .inr ⟨h0, h1, h⟩
  · rintro (⟨h0, h1, h⟩ | ⟨h0, h1, h⟩)
    · exact ⟨h0, h1, .inl h⟩
    · exact ⟨h0, h1, .inr h⟩
/-- All pairs' cuts. -/
def cap (x y : Rng) : Rng := ⟨max x.lo y.lo, min x.hi y.hi⟩
def caps (A B : List Rng) : List Rng := A.flatMap fun x => B.map (cap x)
theorem caps_take (A B : List Rng) (k : Nat) (h : k < A.length) : caps (A.take (k + 1)) B = caps (A.take k) B ++ B.map (cap A[k]) := by
  unfold caps
  rw [List.take_succ_eq_append_getElem h, List.flatMap_append]
  simp
theorem caps_len (A B : List Rng) : (caps A B).length = A.length * B.length := by
  unfold caps
  induction A with
  | nil => simp
  | cons x A ih => rw [List.flatMap_cons, List.length_append, ih, List.length_map, List.length_cons, Nat.add_mul]; omega
theorem mem_caps {A B : List Rng} (hA : IsForm A) (hB : IsForm B) (n : Int) : sizes (caps A B) n ↔ memS A n ∧ memS B n := by
  unfold sizes caps
  constructor
  · rintro ⟨_, _, r, hr, h1, h2⟩
    obtain ⟨x, hx, hr⟩ := List.mem_flatMap.1 hr
    obtain ⟨y, hy, rfl⟩ := List.mem_map.1 hr
    unfold cap at h1 h2
    simp only at h1 h2
    exact ⟨⟨x, hx, by omega, by omega⟩, ⟨y, hy, by omega, by omega⟩⟩
  · rintro ⟨⟨x, hx, h1, h2⟩, ⟨y, hy, h3, h4⟩⟩
    have := hA.ok x hx
    unfold Ok1 at this
    refine ⟨by omega, by omega, cap x y, List.mem_flatMap.2 ⟨x, hx, List.mem_map.2 ⟨y, hy, rfl⟩⟩, ?_, ?_⟩
    · unfold cap; simp only; omega
    · unfold cap; simp only; omega
theorem map_take_succ (f : Rng → Rng) (l : List Rng) (k : Nat) (h : k < l.length) : (l.take (k + 1)).map f = (l.take k).map f ++ [f l[k]] := by
  rw [List.take_succ_eq_append_getElem h, List.map_append]
  rfl

set_option maxRecDepth 100000 in
set_option maxHeartbeats 4000000 in
theorem meet8_f (w : World) (v u : Value) (a b : List Rng) (h : Sl w 2 v (a.map Rng.cells)) (hb : Sl w 2 u (b.map Rng.cells)) (hl : a.length ≤ 300) (hl2 : b.length ≤ 300) : Calls Tryz.prog 59 #[v, u] w (RetQ (fun v' w' => RowAt Rng.cells 2 (nf fun n => sizes a n ∧ sizes b n) v' w' ∧ Fresh w v') w) := by
  have HNb := hid (norm_c w u b hb (by omega))
  have HNa := fun W (hW : Ext w W) => hid (norm_c W v a (h.ext hW) (by omega))
  obtain ⟨fa1, fa2, fa3⟩ := nf_form a
  obtain ⟨fb1, fb2, fb3⟩ := nf_form b
  obtain ⟨A0, c0, rfl, _⟩ := sl_get h
  obtain ⟨B0, d0, rfl, _⟩ := sl_get hb
  clear h hb
  have hset : nf (sizes (caps (nf (sizes a)) (nf (sizes b)))) = nf fun n => sizes a n ∧ sizes b n := nf_congr fun n => by rw [mem_caps fa1 fb1, fa2, fb2]
  generalize nf (sizes a) = A at *
  generalize nf (sizes b) = B at *
  have HNo := fun W (u : Value) (hs : Sl W 2 u ((caps A B).map Rng.cells)) => hid (norm_f W u (caps A B) hs (by rw [caps_len]; have := Nat.mul_le_mul fa3 fb3; have := Nat.mul_le_mul hl hl2; omega))
  rw [hset] at HNo
  have HLen : Hid (∀ k, k ≤ A.length → (caps (A.take k) B).length ≤ 90000) := fun k hk => by
    rw [caps_len, List.length_take]
    have h1 : min k A.length ≤ 300 := by omega
    have := Nat.mul_le_mul h1 (show B.length ≤ 300 by omega)
    omega
  clear hset fa1 fa2 fb1 fb2
  go_enter Tryz.func59, Tryz.ntmps59
  go_wp2_with (first
    | (go_at_call 62; have tok := HX1; clear tok; refine (HNa _ HX1.out).out.mono ?_; rintro e w2 ⟨x, rfl, hy, hx2⟩; obtain ⟨Aa, ca, hxa, p1, p2, p3⟩ := sl_get hy.1; obtain ⟨Ab, cb, hxb, q1, q2, q3⟩ := sl_get (HY.out.1.ext hx2); subst hxa hxb; have HX2 := hid (HX1.out.trans hx2); clear hy hx2)
    | (go_at_call 62; refine (HNb.out).mono ?_; rintro e w1 ⟨y, rfl, hy, hx1⟩; have HX1 := hid hx1; have HY := hid hy; clear hy hx1))
  unfold maxLen at p2 q2
  clear HY
  go_loopw [5, 15] (fun v i wr => ∃ k : Nat, k ≤ A.length ∧ i = .int .i64 k ∧ Ext w2 wr ∧ wr.ownsRow w2.heap.size 40 2 v (caps (A.take k) B).length ((caps (A.take k) B).map Rng.cells).flatten) (fun _ i _ => A.length - (intOf i).toNat)
  case atStart => exact ⟨0, by omega, rfl, Ext.refl _, ownsRow_nil _ _ _ _⟩
  case round =>
    obtain ⟨k, hk, rfl, hE, hO⟩ := hrel
    have HE := hid hE
    by_cases hlt : k < A.length
    · obtain ⟨b', o, rfl, lb, hcell⟩ := p3 (by omega)
      have e0 := hE.cell (hcell k hlt 0 _ rfl)
      have e1 := hE.cell (hcell k hlt 1 _ rfl)
      rw [Nat.add_zero] at e0
      have HS := hid (caps_take A B k hlt)
      have hlen := HLen.out k hk
      have HO := hid hO
      clear hE hO hcell p3
      generalize A[k] = x at e0 e1 HS
      generalize caps (A.take k) B = acc at HS HO hlen
      go_wp2_with fail
      have hB0 := Blk.new wr 40 #[.int .i64 x.lo, .int .i64 x.hi]
      have HOa := hid (ownsRow_ext HO.out (Ext.alloc wr (.cells #[.int .i64 x.lo, .int .i64 x.hi] 40)))
      have HEw := hid (HE.out.alloc' (.cells #[.int .i64 x.lo, .int .i64 x.hi] 40))
      have HNe : Hid (∀ q, u5.ownBlock = some q → q ≠ wr.heap.size) := fun q hq => by have := (row_block HO.out q hq).2; omega
      generalize wr.alloc (.cells #[.int .i64 x.lo, .int .i64 x.hi] 40) = wa at hB0 HOa HEw ⊢
      generalize wr.heap.size = ga at hB0 HNe ⊢
      have HB0 := hid hB0
      clear hB0 HO e0 e1
      go_loopw [5, 21] (fun v i wi => ∃ j : Nat, j ≤ B.length ∧ i = .int .i64 j ∧ Ext w2 wi ∧ Blk wi ga 40 #[.int .i64 x.lo, .int .i64 x.hi] ∧ Hid (∀ q, v.ownBlock = some q → q ≠ ga) ∧ wi.ownsRow w2.heap.size 40 2 v (acc ++ (B.take j).map (cap x)).length ((acc ++ (B.take j).map (cap x)).map Rng.cells).flatten) (fun _ i _ => B.length - (intOf i).toNat)
      case atStart => exact ⟨0, by omega, rfl, HEw.out, HB0.out, HNe, by simpa using HOa.out⟩
      case round =>
        obtain ⟨j, hj, rfl, hEi, hbi, hne, hOi⟩ := hrel
        have HEi := hid hEi
        by_cases hjlt : j < B.length
        · obtain ⟨b2, o2, rfl, lb2, hcell2⟩ := q3 (by omega)
          have y0 := hEi.cell (hcell2 j hjlt 0 _ rfl)
          have y1 := hEi.cell (hcell2 j hjlt 1 _ rfl)
          rw [Nat.add_zero] at y0
          have lbr2 := Nat.lt_of_lt_of_le lb2 hEi.size
          have HSj := hid (map_take_succ (cap x) B j hjlt)
          have x0 := hbi.cell (i := 0) (v := .int .i64 x.lo) rfl
          have x1 := hbi.cell (i := 1) (v := .int .i64 x.hi) rfl
          have lgi := hbi.lt
          have hlj : (acc ++ (B.take j).map (cap x)).length ≤ 1000000 := by rw [List.length_append, List.length_map, List.length_take]; omega
          have HOi := hid hOi
          have HBi := hid hbi
          clear hEi hOi hcell2 q3 hbi
          generalize B[j] = y at y0 y1 HSj
          have HAcc : Hid (acc ++ (B.take (j + 1)).map (cap x) = (acc ++ (B.take j).map (cap x)) ++ [cap x y]) := by unfold Hid; rw [HSj.out, List.append_assoc]
          generalize acc ++ (B.take j).map (cap x) = ac at HOi hlj HAcc
          have hE5 := Ext.alloc wr (.cells #[.int .i64 y.lo, .int .i64 y.hi] 40)
          obtain ⟨v', w4, hrun, ho4, hk4, hbl⟩ := app_one (P := Tryz.prog) rng_elem rng_coded (ownsRow_ext HOi.out hE5) (HEi.out.trans hE5).size (cap x y) hlj (by omega)
          simp only [Rng.cells, cap] at hrun
          rw [show (wr.alloc (.cells #[.int .i64 y.lo, .int .i64 y.hi] 40)).heap.size = wr.heap.size + 1 by simp] at hrun
          have HO4 := hid ho4
          have HE4 : Hid (Ext w2 w4) := hk4.toExt (HEi.out.trans hE5) (fun q hq => (row_block HOi.out q hq).1)
          have HB4 := hid ((HBi.out.ext hE5).keep hk4 (fun h => hne.out ga h rfl))
          have HN4 : Hid (∀ q, v'.ownBlock = some q → q ≠ ga) := fun q hq => by
            rcases hbl with h | h
            · exact hne.out q (by rw [← h]; exact hq)
            · have := h q hq; have := hE5.size; omega
          clear ho4 hk4 hbl hE5 HB0 HOa HEw HNe HSj
          go_wp2_with (at_builtin; refine wpList_app rfl (.tmp 25) (.tmp 37) _ _ rfl rfl rfl hrun ?_)
          go_roundw
          case rel => exact ⟨j + 1, by omega, by go_num, HE4.out, HB4.out, HN4, by rw [HAcc.out]; exact HO4.out⟩
          case measure => simp [intOf]; omega
        · obtain rfl : j = B.length := by omega
          rw [List.take_length] at hOi
          have HOi := hid hOi
          clear hEi hOi hbi hne q3 HB0 HOa HEw HNe
          go_wp2_with fail
          go_roundw
          case rel => exact ⟨k + 1, by omega, by go_num, HEi.out, by rw [HS.out]; exact HOi.out⟩
          case measure => simp [intOf]; omega
    · obtain rfl : k = A.length := by omega
      rw [List.take_length] at hO
      have HN := HNo wr u5 (sl_of_row (rng_coded.sizes _) (by rw [List.length_map]; exact hO))
      clear hE hO HNo HNa HNb p3 q3 HLen
      go_wp2_with (go_at_call 62; refine (HN.out).mono ?_; rintro e w5 ⟨v5, rfl, hv5, hx5⟩; have HV5 := hid hv5; have HX5 := hid hx5; clear hv5 hx5)
      go_ret
      exact ⟨_, rfl, ⟨HV5.out.1, HV5.out.2.early (HX2.out.trans HE.out)⟩, HX2.out.trans (HE.out.trans HX5.out)⟩
end Go.Proofs.YtggbkjmedoooaaaGreatDoor.Sz
namespace Go.Proofs.YtggbkjmedoooaaaGreatDoor.Sz
open Go.RowKit

/-- What is between ranges. -/
def restL (next : Int) : List Rng → List Rng
  | [] => [⟨next, 200⟩]
  | r :: l => ⟨next, r.lo - 1⟩ :: restL (r.hi + 1) l
theorem restL_len (l : List Rng) : ∀ next, (restL next l).length = l.length + 1 := by
  induction l with
  | nil => intro next; rfl
  | cons r l ih => intro next; simp [restL, ih]
theorem restL_mem : ∀ (l : List Rng) (next : Int), 0 ≤ next → IsForm l → (∀ r ∈ l, next ≤ r.lo) → ∀ n, sizes (restL next l) n ↔ n ≤ 200 ∧ next ≤ n ∧ ¬ memS l n
  | [], next, h0, _, _, n => by
    unfold sizes restL
    rw [memS_cons, memS_nil, or_false]
    unfold inR
    simp only [memS_nil, not_false_eq_true, and_true]
    omega
  | r :: l, next, h0, hf, hn, n => by
    have hr := hf.ok r (by simp)
    have hrn := hn r (by simp)
    unfold Ok1 at hr
    have ih := restL_mem l (r.hi + 1) (by omega) hf.tail (fun x hx => by have := (List.pairwise_cons.1 hf.gap).1 x hx; omega) n
    have haf : memS l n → r.hi + 1 < n := fun h => hf.after h
    unfold restL
    have e : sizes (⟨next, r.lo - 1⟩ :: restL (r.hi + 1) l) n ↔ (0 ≤ n ∧ n ≤ 200 ∧ next ≤ n ∧ n ≤ r.lo - 1) ∨ sizes (restL (r.hi + 1) l) n := by
      unfold sizes
      rw [memS_cons]
      unfold inR
      simp only
      constructor
      · rintro ⟨a, b, c | c⟩
        · exact .inl ⟨a, b, c.1, c.2⟩
        · exact .inr ⟨a, b, c⟩
      · rintro (⟨a, b, c, d⟩ | ⟨a, b, c⟩)
        · exact ⟨a, b, .inl ⟨c, d⟩⟩
        · exact ⟨a, b, .inr c⟩
    rw [e, ih, memS_cons]
    unfold inR
    constructor
    · rintro (⟨a, b, c, d⟩ | ⟨b, c, d⟩)
      · refine ⟨b, c, ?_⟩
        rintro (h | h)
        · omega
        · have := haf h; omega
      · refine ⟨b, by omega, ?_⟩
        rintro (h | h)
        · omega
        · exact d h
    · rintro ⟨b, c, d⟩
      by_cases hlt : n < r.lo
      · exact .inl ⟨by omega, b, c, by omega⟩
      · refine .inr ⟨b, ?_, fun h => d (.inr h)⟩
        have : ¬ (r.lo ≤ n ∧ n ≤ r.hi) := fun h => d (.inl h)
        omega

set_option maxRecDepth 100000 in
set_option maxHeartbeats 2000000 in
theorem rest_c (w : World) (v : Value) (l : List Rng) (h : Sl w 2 v (l.map Rng.cells)) (hl : l.length ≤ 300) : Calls Tryz.prog 60 #[v] w (RetQ (RowAt Rng.cells 2 (nf fun n => 0 ≤ n ∧ n ≤ 200 ∧ ¬ sizes l n)) w) := by
  have HN := hid (norm_c w v l h (by omega))
  obtain ⟨f1, f2, f3⟩ := nf_form l
  obtain ⟨A, c, rfl, _⟩ := sl_get h
  clear h
  generalize nf (sizes l) = N at HN f1 f2 f3
  have hset : nf (sizes (restL 0 N)) = nf fun n => 0 ≤ n ∧ n ≤ 200 ∧ ¬ sizes l n := nf_congr fun n => by
    rw [restL_mem N 0 (Int.le_refl _) f1 (fun r hr => (f1.ok r hr).1), f2]
    constructor
    · rintro ⟨a, b, c⟩; exact ⟨b, a, c⟩
    · rintro ⟨a, b, c⟩; exact ⟨b, a, c⟩
  have HNo := fun W (u : Value) (hs : Sl W 2 u ((restL 0 N).map Rng.cells)) => hid (norm_c W u (restL 0 N) hs (by rw [restL_len]; omega))
  rw [hset] at HNo
  have HLen := hid (restL_len N 0)
  have HOk := hid f1.ok
  clear hset f1 f2
  go_enter Tryz.func60, Tryz.ntmps60
  go_wp2_with (go_at_call 62; refine (HN.out).mono ?_; rintro e w1 ⟨v1, rfl, hv1, hx1⟩; obtain ⟨A1, c1, hu, q1, q2, q3⟩ := sl_get hv1.1; subst hu; have HX1 := hid hx1; clear hv1 hx1)
  unfold maxLen at q2
  go_loopw [3, 4, 10] (fun v s i wr => ∃ (k : Nat) (next : Int) (acc : List Rng), k ≤ N.length ∧ s = .int .i64 next ∧ i = .int .i64 k ∧ 0 ≤ next ∧ next ≤ 201 ∧ acc.length ≤ k ∧ Hid (acc ++ restL next (N.drop k) = restL 0 N) ∧ Ext w1 wr ∧ wr.ownsRow w1.heap.size 40 2 v acc.length (acc.map Rng.cells).flatten) (fun _ _ i _ => N.length - (intOf i).toNat)
  case atStart => exact ⟨0, 0, [], by omega, rfl, rfl, by omega, by omega, by simp, by exact List.nil_append _, Ext.refl _, ownsRow_nil _ _ _ _⟩
  case round =>
    obtain ⟨k, next, acc, hk, rfl, rfl, hn0, hn1, hacc, hrest, hE, hO⟩ := hrel
    have HE := hid hE
    by_cases hlt : k < N.length
    · obtain ⟨b', o, rfl, lb, hcell⟩ := q3 (by omega)
      have c0 := hE.cell (hcell k hlt 0 _ rfl)
      have c1 := hE.cell (hcell k hlt 1 _ rfl)
      rw [Nat.add_zero] at c0
      have hd : N.drop k = N[k] :: N.drop (k + 1) := List.drop_eq_getElem_cons hlt
      have HR : Hid ((acc ++ [⟨next, N[k].lo - 1⟩]) ++ restL (N[k].hi + 1) (N.drop (k + 1)) = restL 0 N) := by
        have := hrest.out
        rw [hd, restL] at this
        unfold Hid
        rw [List.append_assoc]
        exact this
      have ho := HOk.out _ (List.getElem_mem hlt)
      unfold Ok1 at ho
      have HO := hid hO
      have hb := Blk.new wr 40 #[.int .i64 N[k].lo, .int .i64 N[k].hi]
      clear hE hcell q3 hrest hO hd
      generalize N[k] = z at c0 c1 HR ho hb
      have hE5 := Ext.alloc wr (.cells #[.int .i64 z.lo, .int .i64 z.hi] 40)
      obtain ⟨v', w4, hrun, ho4, hk4, _⟩ := app_one (P := Tryz.prog) rng_elem rng_coded (ownsRow_ext HO.out hE5) (HE.out.trans hE5).size ⟨next, z.lo - 1⟩ (by omega) (by omega)
      simp only [Rng.cells] at hrun
      rw [show (wr.alloc (.cells #[.int .i64 z.lo, .int .i64 z.hi] 40)).heap.size = wr.heap.size + 1 by simp] at hrun
      have HO4 := hid ho4
      have HE4 : Hid (Ext w1 w4) := hk4.toExt (HE.out.trans hE5) (fun q hq => (row_block HO.out q hq).1)
      have hb4 := hb.keep hk4 (fun h => by have := (row_block HO.out _ h).2; omega)
      have x1 := hb4.cell (i := 1) (v := .int .i64 z.hi) rfl
      have lx := hb4.lt
      clear ho4 hk4 hE5 hb hb4
      go_wp2_with (at_builtin; refine wpList_app rfl (.tmp 14) (.tmp 20) _ _ rfl rfl rfl hrun ?_)
      go_roundw
      case rel => exact ⟨k + 1, z.hi + 1, _, by omega, rfl, by go_num, by omega, by omega, by simp; omega, HR.out, HE4.out, HO4.out⟩
      case measure => simp [intOf]; omega
    · obtain rfl : k = N.length := by omega
      have HR : Hid (acc ++ [⟨next, 200⟩] = restL 0 N) := by
        have := hrest.out
        rw [List.drop_length, restL] at this
        exact this
      obtain ⟨v', w4, hrun, ho4, hk4, _⟩ := app_one (P := Tryz.prog) rng_elem rng_coded hO hE.size ⟨next, 200⟩ (by omega) (by omega)
      simp only [Rng.cells] at hrun
      have HE4 : Hid (Ext w1 w4) := hk4.toExt hE (fun q hq => (row_block hO q hq).1)
      rw [HR.out] at ho4
      have HNr := HNo w4 v' (sl_of_row (rng_coded.sizes _) (by rw [List.length_map]; exact ho4))
      clear hE hO q3 hrest ho4 hk4 HNo
      go_wp2_with (first
        | (at_builtin; refine wpList_app rfl (.tmp 26) (.tmp 29) _ _ rfl rfl rfl hrun ?_)
        | (go_at_call 62; refine (HNr.out).mono ?_; rintro e w5 ⟨v5, rfl, hv5, hx5⟩; have HV5 := hid hv5; have HX5 := hid hx5; clear hv5 hx5))
      go_ret
      exact ⟨_, rfl, HV5.out, HX1.out.trans (HE4.out.trans HX5.out)⟩

set_option maxRecDepth 100000 in
set_option maxHeartbeats 2000000 in
theorem minus8_f (w : World) (v u : Value) (a b : List Rng) (h : Sl w 2 v (a.map Rng.cells)) (hb : Sl w 2 u (b.map Rng.cells)) (hl : a.length ≤ 200) (hl2 : b.length ≤ 200) : Calls Tryz.prog 43 #[v, u] w (RetQ (fun v' w' => RowAt Rng.cells 2 (nf fun n => sizes a n ∧ ¬ sizes b n) v' w' ∧ Fresh w v') w) := by
  have HR := hid (rest_c w u b hb (by omega))
  obtain ⟨fb1, fb2, fb3⟩ := nf_form b
  -- the rest's own normal form
  have hrs : ∀ n, sizes (restL 0 (nf (sizes b))) n ↔ 0 ≤ n ∧ n ≤ 200 ∧ ¬ sizes b n := fun n => by
    rw [restL_mem _ 0 (Int.le_refl _) fb1 (fun r hr => (fb1.ok r hr).1), fb2]
    constructor
    · rintro ⟨a, b, c⟩; exact ⟨b, a, c⟩
    · rintro ⟨a, b, c⟩; exact ⟨b, a, c⟩
  have he : (nf fun n => 0 ≤ n ∧ n ≤ 200 ∧ ¬ sizes b n) = nf (sizes (restL 0 (nf (sizes b)))) := nf_congr fun n => (hrs n).symm
  obtain ⟨g1, g2, g3⟩ := nf_form (restL 0 (nf (sizes b)))
  rw [← he] at g1 g2 g3
  rw [restL_len] at g3
  have hset : (nf fun n => sizes a n ∧ sizes (nf fun n => 0 ≤ n ∧ n ≤ 200 ∧ ¬ sizes b n) n) = nf fun n => sizes a n ∧ ¬ sizes b n := nf_congr fun n => by
    rw [sizes_form g1, g2, hrs]
    constructor
    · rintro ⟨a, _, _, c⟩; exact ⟨a, c⟩
    · rintro ⟨a, c⟩; exact ⟨a, a.1, a.2.1, c⟩
  have HM := fun W (he : Ext w W) (x : Value) (hx : Sl W 2 x ((nf fun n => 0 ≤ n ∧ n ≤ 200 ∧ ¬ sizes b n).map Rng.cells)) => hid (meet8_f W v x a _ (h.ext he) hx (by omega) (by omega))
  rw [hset] at HM
  obtain ⟨A, c, rfl, _⟩ := sl_get h
  obtain ⟨A', c', rfl, _⟩ := sl_get hb
  clear h hb hset he hrs g1 g2 g3 fb1 fb2 fb3
  go_enter Tryz.func43, Tryz.ntmps43
  go_wp2_with (first
    | (go_at_call 60; refine (HR.out).mono ?_; rintro e w1 ⟨x, rfl, hx, hx1⟩; have HX1 := hid hx1; have HX := hid hx.1; clear hx hx1)
    | (go_at_call 59; refine (HM _ HX1.out _ HX.out).out.mono ?_; rintro e w2 ⟨y, rfl, hy, hx2⟩))
  go_ret
  exact ⟨_, rfl, ⟨hy.1, hy.2.early HX1.out⟩, HX1.out.trans hx2⟩
end Go.Proofs.YtggbkjmedoooaaaGreatDoor.Sz
