/-
  The law TallyAdds: its walk.
-/
import Derived.Test.YtefgjkaoidifbaaTaK
import Derived.IntWalk
namespace Go.Proofs.Ytefgjkaoidifbaa
set_option linter.unusedSimpArgs false
set_option linter.unusedVariables false
open Go.RowKit Go.Maps

theorem gat_bd {B : Int} {l : List Cnt} (hB : 0 ≤ B) (h : ∀ x ∈ l, Bd B x) : ∀ y ∈ gat l, Bd (B * l.length) y := fun y hy => by
  have := ((gat_isG l).mem y).1 hy
  rw [this.2]
  exact tot_bd hB h _

set_option maxRecDepth 100000 in
set_option maxHeartbeats 4000000 in
theorem adds_walk (w : World) (u v : Value) (a b : List Cnt) (ha : Sl w 4 u (a.map Cnt.cells)) (hb : Sl w 4 v (b.map Cnt.cells)) (hka : ∀ x ∈ a, okK x.kind) (hkb : ∀ x ∈ b, okK x.kind) : Calls Try.prog 9 #[u, v] w (Ret (.bool true) w) := by
  have HA := hid ha
  have HB := hid hb
  have HF1 := hid (cfew_c w u a ha)
  have HF2 := fun W (hW : Ext w W) => hid (cfew_c W v b (hb.ext hW))
  have hA' : ∀ x ∈ (a.take 40).map cutC, Bd 1100000000000 x ∧ okK x.kind := fun x hx => by
    obtain ⟨y, hy, rfl⟩ := List.mem_map.1 hx
    exact ⟨cutC_bd y, hka y (List.mem_of_mem_take hy)⟩
  have hB' : ∀ x ∈ (b.take 40).map cutC, Bd 1100000000000 x ∧ okK x.kind := fun x hx => by
    obtain ⟨y, hy, rfl⟩ := List.mem_map.1 hx
    exact ⟨cutC_bd y, hkb y (List.mem_of_mem_take hy)⟩
  have lA : ((a.take 40).map cutC).length ≤ 40 := by simp; omega
  have lB : ((b.take 40).map cutC).length ≤ 40 := by simp; omega
  generalize (a.take 40).map cutC = l at HF1 hA' lA
  generalize (b.take 40).map cutC = m at HF2 hB' lB
  have HA' := hid hA'
  have HB' := hid hB'
  obtain ⟨A, c, rfl, _⟩ := sl_get ha
  obtain ⟨A2, c2, rfl, _⟩ := sl_get hb
  clear ha hb hka hkb hA' hB' HA HB
  go_enter Try.func9, Try.ntmps9
  go_wp2_with (first
    | (go_at_call 48; refine (HF1.out).mono ?_; rintro e w1 ⟨v1, rfl, hv1, hx1⟩; have HV1 := hid hv1.1; have HX1 := hid hx1; obtain ⟨A3, c3, rfl, h31, h32, h33⟩ := sl_get hv1.1; clear hv1 hx1 HF1)
    | (go_at_call 48; refine (HF2 _ HX1.out).out.mono ?_; rintro e w2 ⟨v2, rfl, hv2, hx2⟩; have HV2 := hid hv2.1; have HX2 := hid hx2; obtain ⟨A4, c4, rfl, h41, h42, h43⟩ := sl_get hv2.1; clear hv2 hx2 HF2))
  have HW := hid (HX1.out.trans HX2.out)
  have hE0 := Ext.alloc w2 (.cells #[.int .i64 0, .int .i64 0, .int .i64 0, .int .i64 0] 58)
  have hQ0 := Blk.new w2 58 #[.int .i64 0, .int .i64 0, .int .i64 0, .int .i64 0]
  have g33 : 0 < l.length → ∃ b o, A3 = some ⟨b, o, none⟩ ∧ b < w2.heap.size ∧ ∀ k (_ : k < l.length) j u, (l[k].cells)[j]? = some u → w2.cell? ⟨b, o + k * 4 + j, none⟩ = some u := fun h => by
    obtain ⟨b, o, e1, e2, e3⟩ := h33 h
    exact ⟨b, o, e1, Nat.lt_of_lt_of_le e2 HX2.out.size, fun k hk j u hu => HX2.out.cell (e3 k hk j u hu)⟩
  have hV1 := hid (HV1.out.ext HX2.out)
  obtain ⟨q, hqq⟩ : ∃ q, q = w2.heap.size := ⟨_, rfl⟩
  rw [← hqq] at hQ0 ⊢
  have n3 : w2.heap.size ≤ q := by omega
  generalize w2.alloc (.cells #[.int .i64 0, .int .i64 0, .int .i64 0, .int .i64 0] 58) = w0 at hE0 hQ0 ⊢
  clear hqq h33 HV1 HX1 HX2
  unfold maxLen at h32 h42
  go_loopw [5, 7] (fun v i wr => ∃ k : Nat, k ≤ l.length ∧ i = .int .i64 k ∧ Ext w2 wr ∧ ((gat (l.take k)).length = 0 → v = .slice none 0 0) ∧ wr.ownsRow (q + 1) 58 4 v (gat (l.take k)).length ((gat (l.take k)).map Cnt.cells).flatten ∧ Blk wr q 58 ((l.take k).foldl addC ⟨0, 0, 0, 0⟩).cells.toArray) (fun _ i _ => l.length - (intOf i).toNat)
  case atStart => exact ⟨0, by omega, rfl, hE0, (fun _ => rfl), by rw [List.take_zero, gat_nil]; exact ownsRow_nil _ _ _ _, hQ0⟩
  case round =>
    obtain ⟨k, hk, rfl, hE, hz0, hO, hQ⟩ := hrel
    have hR := RowAt.of_row cnt_coded hO hz0
    have HO := hid hO
    have HZ := hid hz0
    clear hE0 hQ0
    have HE := hid hE
    have HQ := hid hQ
    have HR := hid hR
    by_cases hlt : k < l.length
    · obtain ⟨b', o, rfl, lb, hcell⟩ := g33 (by omega)
      have c0 := hE.cell (hcell k hlt 0 _ rfl)
      have c1 := hE.cell (hcell k hlt 1 _ rfl)
      have c2 := hE.cell (hcell k hlt 2 _ rfl)
      have c3 := hE.cell (hcell k hlt 3 _ rfl)
      rw [Nat.add_zero] at c0
      have lbr := Nat.lt_of_lt_of_le lb hE.size
      obtain ⟨hz, _⟩ := HA'.out _ (List.getElem_mem hlt)
      have hkl : ((l.take k).length : Int) ≤ 40 := by rw [List.length_take]; omega
      have hs := foldl_bd 1100000000000 (l.take k) ⟨0, 0, 0, 0⟩ 0 (fun x hx => (HA'.out x (List.mem_of_mem_take hx)).1) (by unfold Bd; simp)
      have hg := gat_bd (B := 1100000000000) (l := l.take k) (by omega) (fun x hx => (HA'.out x (List.mem_of_mem_take hx)).1)
      have hgl := gat_len (l.take k)
      have HP := hid (cput_c wr _ (gat (l.take k)) l[k] hR (by rw [List.length_take] at hgl; omega) (by unfold Bd at *; omega) (fun y hy => by have := hg y hy; unfold Bd at *; omega))
      rw [gat_snoc, ← List.take_succ_eq_append_getElem hlt] at HP
      have HS : Hid ((l.take (k + 1)).foldl addC ⟨0, 0, 0, 0⟩ = addC ((l.take k).foldl addC ⟨0, 0, 0, 0⟩) l[k]) := by
        unfold Hid
        rw [List.take_succ_eq_append_getElem hlt, List.foldl_append]; rfl
      have hs' : Bd 1000000000000000 ((l.take k).foldl addC ⟨0, 0, 0, 0⟩) := by unfold Bd at *; omega
      clear hE hcell g33 hR hQ hg hgl hs hkl hO hz0
      generalize l[k] = z at c0 c1 c2 c3 hz HP HS
      have hsk := hid (foldl_kind (l.take k) ⟨0, 0, 0, 0⟩)
      generalize (l.take k).foldl addC ⟨0, 0, 0, 0⟩ = s at HQ HS hs' hsk
      unfold Cnt.val at HP
      unfold Bd at hz hs'
      go_wp2_with (go_at_call 49; refine (HP.out).mono ?_; rintro e w3 ⟨v3, rfl, hv3, ho3, hx3⟩; have HV3 := hid hv3.2; have HO3 := hid ho3; have HX3 := hid hx3; have hq3 := HQ.out.ext hx3; clear hv3 ho3 hx3)
      have q0 := hq3.cell (i := 0) (v := .int .i64 s.kind) rfl
      have q1 := hq3.cell (i := 1) (v := .int .i64 s.acts) rfl
      have q2 := hq3.cell (i := 2) (v := .int .i64 s.errs) rfl
      have q3 := hq3.cell (i := 3) (v := .int .i64 s.made) rfl
      have lq := hq3.lt
      have d1 := HX3.out.cell c1
      have d2 := HX3.out.cell c2
      have d3 := HX3.out.cell c3
      have lb3 := Nat.lt_of_lt_of_le lbr HX3.out.size
      have e1 : IntKind.i64.wrap (s.acts + z.acts) = s.acts + z.acts := IntWalk.i64_in _ (by omega)
      have e2 : IntKind.i64.wrap (s.errs + z.errs) = s.errs + z.errs := IntWalk.i64_in _ (by omega)
      have e3 : IntKind.i64.wrap (s.made + z.made) = s.made + z.made := IntWalk.i64_in _ (by omega)
      have HQ3 := hid hq3
      clear c0 c1 c2 c3 lbr hq3 hz hs'
      refine wp_region_last (Rel.ext) (pre := ?pre) (z := ?z) ?hpre ?hz (Ext.steady _) (by kernel_rfl) (by kernel_rfl) (by kernel_rfl) (by kernel_rfl) ?_
      case hpre => (simp only [List.dropLast_cons_cons, List.dropLast_singleton]; first | done | exact rfl)
      case hz => (simp only [List.getLast?_cons_cons, List.getLast?_singleton]; first | done | exact rfl)
      repeat (first
        | (refine AWq.val rfl rfl rfl rfl (fun K hK => ?_); go_big_quiet_op; refine hK _ ?_; clear hK K)
        | (refine AWq.skip rfl rfl rfl ?_; simp only [Act.put, List.setIfInBounds_toArray, List.set_cons_succ, List.set_cons_zero]))
      refine AWq.last rfl rfl rfl (fun w4 x4 => ?_)
      simp only [closeAny, Act.put, List.setIfInBounds_toArray, List.set_cons_succ, List.set_cons_zero]
      have hq4 := HQ3.out.ext x4
      have p0 := hq4.cell (i := 0) (v := .int .i64 s.kind) rfl
      have p1 := hq4.cell (i := 1) (v := .int .i64 s.acts) rfl
      have p2 := hq4.cell (i := 2) (v := .int .i64 s.errs) rfl
      have p3 := hq4.cell (i := 3) (v := .int .i64 s.made) rfl
      have fz0 := hq4.frozen 0
      have fz1 := hq4.frozen 1
      have fz2 := hq4.frozen 2
      have fz3 := hq4.frozen 3
      have lq4 := hq4.lt
      have HQ4 := hid hq4
      have HX4 := hid x4
      clear hq4 x4 q0 q1 q2 q3 lq d1 d2 d3 lb3 e1 e2 e3
      go_wp2_with fail
      have hK : Keep (fun t => t = q) w4 ((((w4.setCell ⟨q, 0, none⟩ (.int .i64 0)).setCell ⟨q, 1, none⟩ (.int .i64 (s.acts + z.acts))).setCell ⟨q, 2, none⟩ (.int .i64 (s.errs + z.errs))).setCell ⟨q, 3, none⟩ (.int .i64 (s.made + z.made))) := ((((Keep.refl (fun t => t = q) w4).setCell (p := ⟨q, 0, none⟩) (.inl rfl) _).setCell (p := ⟨q, 1, none⟩) (.inl rfl) _).setCell (p := ⟨q, 2, none⟩) (.inl rfl) _).setCell (p := ⟨q, 3, none⟩) (.inl rfl) _
      have hq1 : q + 1 ≤ wr.heap.size := HQ.out.lt
      have hrow := ownsRow_mono (ownsRow_keep (ownsRow_ext HO3.out HX4.out) hK (fun t ht => by have := (row_block HO3.out t ht).1; omega)) hq1
      have hE4 : Ext w2 w4 := (HE.out.trans HX3.out).trans HX4.out
      have hsk0 : s.kind = 0 := hsk.out
      refine ⟨⟨k + 1, by omega, by go_num, (((hE4.setCell' (p := ⟨q, 0, none⟩) n3 _).setCell' (p := ⟨q, 1, none⟩) n3 _).setCell' (p := ⟨q, 2, none⟩) n3 _).setCell' (p := ⟨q, 3, none⟩) n3 _, HV3.out, hrow, ?_⟩, by simp [intOf]; omega⟩
      rw [HS.out]
      have hb := (((HQ4.out.set 0 (.int .i64 0)).set 1 (.int .i64 (s.acts + z.acts))).set 2 (.int .i64 (s.errs + z.errs))).set 3 (.int .i64 (s.made + z.made))
      unfold addC
      rw [hsk0]
      exact hb
    · obtain rfl : k = l.length := by omega
      rw [List.take_length] at hR hQ
      have HR0 := hid hR
      have HQ0 := hid hQ
      have hl0 := hid (gat_len l)
      clear hE g33 hR hQ HO HZ HQ HR hO hz0
      go_wp2_with fail
      go_loopw [5, 8] (fun v i wi => ∃ k : Nat, k ≤ m.length ∧ i = .int .i64 k ∧ Ext wr wi ∧ RowAt Cnt.cells 4 (gat (l ++ m.take k)) v wi) (fun _ i _ => m.length - (intOf i).toNat)
      case atStart => exact ⟨0, by omega, rfl, Ext.refl _, by rw [List.take_zero, List.append_nil]; exact HR0.out⟩
      case round =>
        obtain ⟨k, hk, rfl, hE2, hR⟩ := hrel
        have HE2 := hid hE2
        have HR := hid hR
        have HE3 := hid (HE.out.trans hE2)
        by_cases hlt : k < m.length
        · obtain ⟨b', o, rfl, lb, hcell⟩ := h43 (by omega)
          have c0 := HE3.out.cell (hcell k hlt 0 _ rfl)
          have c1 := HE3.out.cell (hcell k hlt 1 _ rfl)
          have c2 := HE3.out.cell (hcell k hlt 2 _ rfl)
          have c3 := HE3.out.cell (hcell k hlt 3 _ rfl)
          rw [Nat.add_zero] at c0
          have lbr := Nat.lt_of_lt_of_le lb HE3.out.size
          obtain ⟨hz, _⟩ := HB'.out _ (List.getElem_mem hlt)
          have hall : ∀ x ∈ l ++ m.take k, Bd 1100000000000 x := fun x hx => by
            rcases List.mem_append.1 hx with hx | hx
            · exact (HA'.out x hx).1
            · exact (HB'.out x (List.mem_of_mem_take hx)).1
          have hlen : (l ++ m.take k).length ≤ 80 := by rw [List.length_append, List.length_take]; omega
          have hg := gat_bd (B := 1100000000000) (by omega) hall
          have hgl := gat_len (l ++ m.take k)
          have HP := hid (cput_c _ _ (gat (l ++ m.take k)) m[k] hR (by omega) (by unfold Bd at *; omega) (fun y hy => by have := hg y hy; unfold Bd at *; omega))
          rw [gat_snoc, List.append_assoc, ← List.take_succ_eq_append_getElem hlt] at HP
          clear hE2 hcell h43 hR hg hgl hall hlen
          generalize m[k] = z at c0 c1 c2 c3 hz HP
          unfold Cnt.val at HP
          go_wp2_with (go_at_call 49; refine (HP.out).mono ?_; rintro e w3 ⟨v3, rfl, hv3, ho3, hx3⟩; have HV3 := hid hv3; have HX3 := hid hx3; clear hv3 ho3 hx3)
          exact ⟨⟨k + 1, by omega, by go_num, HE2.out.trans HX3.out, HV3.out⟩, by simp [intOf]; omega⟩
        · obtain rfl : k = m.length := by omega
          rw [List.take_length] at hR
          have HRw := hid hR
          have q0 := (HQ0.out.ext hE2).cell (i := 0) rfl
          have HQ := hid (HQ0.out.ext hE2)
          have hVL := fun W (hW : Ext wr W) => hid (cadd_c W _ _ l m (hV1.out.ext (HE3.out.trans hW)) (HV2.out.ext (HE3.out.trans hW)) (by omega) (fun x hx => by
            rcases List.mem_append.1 hx with hx | hx
            · exact HA'.out x hx
            · exact HB'.out x hx))
          have hAll := fun W (hW : Ext wr W) => hid (call_c W _ l (hV1.out.ext (HE3.out.trans hW)) (by omega) (fun x hx => (HA'.out x hx).1))
          clear hE2 hR h43 q0
          have s0 := foldl_kind l ⟨0, 0, 0, 0⟩
          generalize l.foldl addC ⟨0, 0, 0, 0⟩ = s at HQ hAll s0
          generalize gat (l ++ m) = g at HRw hVL
          have HSame := fun W y (hW : Ext wr W) (hy : RowAt Cnt.cells 4 g y W) => hid (csame_c W y _ g hy.1 (HRw.out.1.ext hW))
          have q0 := HQ.out.cell (i := 0) (v := .int .i64 s.kind) rfl
          have q1 := HQ.out.cell (i := 1) (v := .int .i64 s.acts) rfl
          have q2 := HQ.out.cell (i := 2) (v := .int .i64 s.errs) rfl
          have q3 := HQ.out.cell (i := 3) (v := .int .i64 s.made) rfl
          have lq := HQ.out.lt
          have hs : eq4 ⟨s.kind, s.acts, s.errs, s.made⟩ ⟨s.kind, s.acts, s.errs, s.made⟩ = true := eq4_self s
          clear s0
          unfold Cnt.val at hAll
          go_wp2_with fail
          refine wp_region_any_order (by kernel_rfl) (by kernel_rfl) (by kernel_rfl) ?_
          repeat (first
            | (refine AWq.val rfl rfl rfl rfl (fun K hK => ?_); go_big_quiet_op; refine hK _ ?_; clear hK K)
            | (refine AWq.skip rfl rfl rfl ?_; simp only [Act.put, List.setIfInBounds_toArray, List.set_cons_succ, List.set_cons_zero])
            | (refine AWq.call rfl Try.func21 (by kernel_rfl) (by kernel_rfl) rfl rfl rfl ?_; apply Exists.intro; refine And.intro (fun wc hc => ?_) ?_; (· (simp only [argsOf, anyAt, ↓reduceIte, Nat.reduceEqDiff, Array.getD_eq_getD_getElem?, List.getElem?_toArray, List.getElem?_cons_succ, List.getElem?_cons_zero, Option.getD_some]; with_reducible exact awake38_c _)); simp only [Act.put, List.setIfInBounds_toArray, List.set_cons_succ, List.set_cons_zero])
            | (refine AWq.callQ (RowAt Cnt.cells 4 g) (RowAt.steady _ _ _) rfl Try.func46 (by kernel_rfl) (by kernel_rfl) rfl rfl rfl (fun wc hc => ?_) ?_; (· (simp only [argsOf, anyAt, ↓reduceIte, Nat.reduceEqDiff, Array.getD_eq_getD_getElem?, List.getElem?_toArray, List.getElem?_cons_succ, List.getElem?_cons_zero, Option.getD_some]; exact (hVL _ hc).out)))
            | ((refine AWq.call rfl Try.func44 (by kernel_rfl) (by kernel_rfl) rfl rfl rfl ?_; apply Exists.intro; refine And.intro (fun wc hc => ?_) ?_; (· (simp only [argsOf, anyAt, ↓reduceIte, Nat.reduceEqDiff, Array.getD_eq_getD_getElem?, List.getElem?_toArray, List.getElem?_cons_succ, List.getElem?_cons_zero, Option.getD_some]; intro y hy; exact (HSame _ y hc hy).out)); simp only [Act.put, List.setIfInBounds_toArray, List.set_cons_succ, List.set_cons_zero]))
            | (refine AWq.call rfl Try.func47 (by kernel_rfl) (by kernel_rfl) rfl rfl rfl ?_; apply Exists.intro; refine And.intro (fun wc hc => ?_) ?_; (· (simp only [argsOf, anyAt, ↓reduceIte, Nat.reduceEqDiff, Array.getD_eq_getD_getElem?, List.getElem?_toArray, List.getElem?_cons_succ, List.getElem?_cons_zero, Option.getD_some]; with_reducible exact (hAll _ hc).out)); simp only [Act.put, List.setIfInBounds_toArray, List.set_cons_succ, List.set_cons_zero]))
          refine AWq.done rfl rfl rfl (fun w5 x5 => ?_)
          simp only [closeAny, Act.put, List.setIfInBounds_toArray, List.set_cons_succ, List.set_cons_zero]
          intro _ _
          go_wp2_with fail
          go_ret
          exact ⟨rfl, HW.out.trans (HE3.out.trans x5)⟩
end Go.Proofs.Ytefgjkaoidifbaa
