/-
  Sane; whether two filters are the very same; filter.Same.
-/
import Derived.Test.YtgkdiknmjgpgmaaGreatDoorFqA
namespace Go.Proofs.YtgkdiknmjgpgmaaGreatDoor
set_option linter.unusedSimpArgs false
set_option linter.unusedVariables false
open Go.RowKit Go.Sort

def saneF (f : List ClauseI) : List ClauseI := f.filter rightC
theorem saneF_take {f : List ClauseI} {k : Nat} (h : k < f.length) : saneF (f.take (k + 1)) = if rightC f[k] then saneF (f.take k) ++ [f[k]] else saneF (f.take k) := by
  unfold saneF
  rw [List.take_succ_eq_append_getElem h, List.filter_append, List.filter_cons, List.filter_nil]
  split <;> simp
theorem saneF_len (f : List ClauseI) (k : Nat) : (saneF (f.take k)).length ≤ k := by
  have h1 := List.length_filter_le rightC (f.take k)
  rw [List.length_take] at h1
  unfold saneF
  omega
set_option maxRecDepth 100000 in
set_option maxHeartbeats 4000000 in
theorem sane_c (w : World) (v : Value) (l : List ClauseI) (h : Sl w 3 v (l.map ClauseI.cells)) (hl : l.length ≤ 5000) (hs : LightF l) : Calls Tryz.prog 7 #[v] w (RetQ (RowAt ClauseI.cells 3 (saneF l)) w) := by
  obtain ⟨A, c, rfl, h1, h2, h3⟩ := sl_get h
  unfold maxLen at h2
  have HSz := hid hs
  clear h hs
  go_enter Tryz.func7, Tryz.ntmps7
  go_wp2_with fail
  go_loopw [3, 4] (fun v i wr => ∃ (k : Nat) (ov : Value), ov = v ∧ k ≤ l.length ∧ i = .int .i64 k ∧ Ext w wr ∧ ((saneF (l.take k)).length = 0 → v = .slice none 0 0) ∧ wr.ownsRow w.heap.size 34 3 v (saneF (l.take k)).length ((saneF (l.take k)).map ClauseI.cells).flatten) (fun _ i _ => l.length - (intOf i).toNat)
  case atStart => exact ⟨0, _, rfl, by omega, rfl, Ext.refl _, (fun _ => rfl), ownsRow_nil _ _ _ _⟩
  case round =>
    obtain ⟨k, v, rfl, hk, rfl, hE, hz, hO⟩ := hrel
    have HE := hid hE
    have HO := hid hO
    have HZ := hid hz
    by_cases hlt : k < l.length
    · obtain ⟨b', o, rfl, lb, hcell⟩ := h3 (by omega)
      have c0 := hE.cell (hcell k hlt 0 _ rfl)
      have c1 := hE.cell (hcell k hlt 1 _ rfl)
      have c2 := hE.cell (hcell k hlt 2 _ rfl)
      rw [Nat.add_zero] at c0
      have lbr := Nat.lt_of_lt_of_le lb hE.size
      have HM := hid (saneF_take hlt)
      have hln := saneF_len l k
      have hsz := HSz.out _ (List.getElem_mem hlt)
      clear hcell h3 hE hz hO
      generalize saneF (l.take k) = acc at HO HZ HM hln
      generalize l[k] = x at c0 c1 c2 HM hsz
      have HC := fun W => hid (rrightC_c W x (by omega))
      unfold ClauseI.val at HC
      cases hc : rightC x with
      | false =>
        rw [hc] at HC HM
        rw [if_neg Bool.false_ne_true] at HM
        clear hc
        go_wp2_with (go_at_call 18; refine (HC _).out.mono ?_; rintro e w5 ⟨rfl, hx5⟩; have HX5 := hid hx5; clear hx5)
        go_roundw
        case rel => exact ⟨k + 1, _, rfl, by omega, by go_num, HE.out.trans HX5.out, (by rw [HM.out]; exact HZ.out), by rw [HM.out]; exact ownsRow_ext HO.out HX5.out⟩
        case measure => simp [intOf]; omega
      | true =>
        rw [hc] at HC HM
        rw [if_pos rfl] at HM
        clear hc
        go_wp2_with (first
          | (at_builtin; obtain ⟨v', w6, hrun6, ho6, hk6, _⟩ := app_one (P := Tryz.prog) clause_elem clause_coded (ownsRow_ext HO.out HX5.out) (Nat.le_trans HE.out.size HX5.out.size) x (by omega) (by omega); simp only [ClauseI.cells] at hrun6; have HE6 := hid (hk6.toExt (HE.out.trans HX5.out) (fun q hq => (row_block HO.out q hq).1)); have HO6 := hid ho6; clear ho6 hk6; refine wpList_app rfl (.tmp 16) (.tmp 21) _ _ rfl rfl rfl hrun6 ?_)
          | (go_at_call 18; refine (HC _).out.mono ?_; rintro e w5 ⟨rfl, hx5⟩; have HX5 := hid hx5; have d0 := hx5.cell c0; have d1 := hx5.cell c1; have d2 := hx5.cell c2; have dl := Nat.lt_of_lt_of_le lbr hx5.size; clear hx5))
        go_roundw
        case rel => exact ⟨k + 1, _, rfl, by omega, by go_num, HE6.out, (fun h => by rw [HM.out] at h; simp at h), by rw [HM.out]; exact HO6.out⟩
        case measure => simp [intOf]; omega
    · obtain rfl : k = l.length := by omega
      rw [List.take_length] at hO hz
      have hrow := RowAt.of_row clause_coded hO hz
      have HR := hid hrow
      clear hE h3 hz hO hrow HO HZ
      go_wp2_with fail
      go_ret
      exact ⟨_, rfl, HR.out, HE.out⟩
/-- '==' of clauses. -/
def eqC (p : ByteArray) (a b : Int) (q : ByteArray) (c d : Int) : Bool := decide (p = q ∧ a = c ∧ b = d)
theorem run_eq_clause (p : ByteArray) (a b : Int) (q : ByteArray) (c d : Int) (w : World) : (Op.equalIn 10000 34 (.agg #[.string p, .int .i64 a, .int .i64 b]) (.agg #[.string q, .int .i64 c, .int .i64 d])).run Tryz.prog w = .ok (eqC p a b q c d) w := by
  have h0 : (p.toList == q.toList) = decide (p = q) := beq_toList p q
  unfold eqC
  by_cases h1 : p = q <;> by_cases h2 : a = c <;> by_cases h3 : b = d <;> simp [go_sem, h1, h2, h3] <;> simp_all
attribute [go_sem 2000] run_eq_clause
set_option maxRecDepth 100000 in
set_option maxHeartbeats 4000000 in
theorem requal_c (w : World) (u v : Value) (a b : List ClauseI) (hu : Sl w 3 u (a.map ClauseI.cells)) (hv : Sl w 3 v (b.map ClauseI.cells)) : Calls Tryz.prog 9 #[u, v] w (Ret (.bool (decide (a = b))) w) := by
  obtain ⟨A, c, rfl, h1, h2, h3⟩ := sl_get hu
  obtain ⟨B, d, rfl, k1, k2, k3⟩ := sl_get hv
  have HR : Hid ((a ≠ b → decide (a = b) = false) ∧ (a = b → decide (a = b) = true)) := ⟨fun h => decide_eq_false h, fun h => decide_eq_true h⟩
  generalize decide (a = b) = r at HR ⊢
  clear hu hv
  unfold maxLen at h2 k2
  by_cases hlen : a.length = b.length
  · have dl : ((a.length : Int) != b.length) = false := by simp [hlen]
    go_enter Tryz.func9, Tryz.ntmps9
    go_wp2_with fail
    go_loopw [5] (fun i wr => ∃ k : Nat, k ≤ a.length ∧ i = .int .i64 k ∧ Ext w wr ∧ Hid (a.take k = b.take k)) (fun i _ => a.length - (intOf i).toNat)
    case atStart => exact ⟨0, by omega, rfl, Ext.refl _, rfl⟩
    case round =>
      obtain ⟨k, hk, rfl, hE, ht⟩ := hrel
      have HE := hid hE
      by_cases hka : k < a.length
      · have hkb : k < b.length := by omega
        obtain ⟨b1, o1, rfl, lb1, hcell1⟩ := h3 (by omega)
        obtain ⟨b2, o2, rfl, lb2, hcell2⟩ := k3 (by omega)
        have c0 := hE.cell (hcell1 k hka 0 _ rfl)
        have c1 := hE.cell (hcell1 k hka 1 _ rfl)
        have c2 := hE.cell (hcell1 k hka 2 _ rfl)
        have d0 := hE.cell (hcell2 k hkb 0 _ rfl)
        have d1 := hE.cell (hcell2 k hkb 1 _ rfl)
        have d2 := hE.cell (hcell2 k hkb 2 _ rfl)
        rw [Nat.add_zero] at c0 d0
        have lr1 := Nat.lt_of_lt_of_le lb1 hE.size
        have lr2 := Nat.lt_of_lt_of_le lb2 hE.size
        have HNe : Hid (a[k] ≠ b[k] → r = false) := fun h => HR.out.1 (fun e => h (by subst e; rfl))
        have HNx : Hid (a[k] = b[k] → a.take (k + 1) = b.take (k + 1)) := fun h => by
          rw [List.take_succ_eq_append_getElem hka, List.take_succ_eq_append_getElem hkb, ht.out, h]
        clear hcell1 hcell2 h3 k3 hE ht HR
        generalize a[k] = x at c0 c1 c2 HNe HNx
        generalize b[k] = y at d0 d1 d2 HNe HNx
        by_cases hxy : x = y
        · have e1 : eqC x.pre x.lo x.hi y.pre y.lo y.hi = true := by subst hxy; simp [eqC]
          have HNx := hid (HNx.out hxy)
          clear HNe hxy
          go_wp2_with fail
          refine wp_region_any_order (by kernel_rfl) (by kernel_rfl) (by kernel_rfl) ?_
          repeat (first
            | (refine AWq.val rfl rfl rfl rfl (fun K hK => ?_); go_big_quiet_op; refine hK _ ?_; clear hK K)
            | (refine AWq.skip rfl rfl rfl ?_; simp only [Act.put, List.setIfInBounds_toArray, List.set_cons_succ, List.set_cons_zero]))
          refine AWq.done rfl rfl rfl (fun w5 x5 => ?_)
          simp only [closeAny, Act.put, List.setIfInBounds_toArray, List.set_cons_succ, List.set_cons_zero]
          go_wp2_with fail
          go_roundw
          case rel => exact ⟨k + 1, by omega, by go_num, HE.out.trans x5, HNx.out⟩
          case measure => simp [intOf]; omega
        · have e1 : eqC x.pre x.lo x.hi y.pre y.lo y.hi = false := by
            unfold eqC
            rw [decide_eq_false_iff_not]
            rintro ⟨q1, q2, q3⟩
            exact hxy (by cases x; cases y; simp_all)
          have HNe := hid (HNe.out hxy)
          clear HNx hxy
          go_wp2_with fail
          refine wp_region_any_order (by kernel_rfl) (by kernel_rfl) (by kernel_rfl) ?_
          repeat (first
            | (refine AWq.val rfl rfl rfl rfl (fun K hK => ?_); go_big_quiet_op; refine hK _ ?_; clear hK K)
            | (refine AWq.skip rfl rfl rfl ?_; simp only [Act.put, List.setIfInBounds_toArray, List.set_cons_succ, List.set_cons_zero]))
          refine AWq.done rfl rfl rfl (fun w5 x5 => ?_)
          simp only [closeAny, Act.put, List.setIfInBounds_toArray, List.set_cons_succ, List.set_cons_zero]
          go_wp2_with fail
          go_ret
          exact ⟨by rw [HNe.out]; rfl, HE.out.trans x5⟩
      · obtain rfl : k = a.length := by omega
        have hr : Hid (r = true) := HR.out.2 (by have := ht.out; rw [List.take_length] at this; rw [hlen, List.take_length] at this; exact this)
        clear hE h3 k3 ht HR
        go_wp2_with fail
        go_ret
        exact ⟨by rw [hr.out]; rfl, HE.out⟩
  · have dl : ((a.length : Int) != b.length) = true := by simp; omega
    have hr : Hid (r = false) := HR.out.1 (fun e => hlen (by rw [e]))
    clear h3 k3 HR
    go_enter Tryz.func9, Tryz.ntmps9
    go_wp2_with fail
    go_ret
    exact ⟨by rw [hr.out]; rfl, Ext.refl _⟩
set_option maxRecDepth 100000 in
set_option maxHeartbeats 4000000 in
theorem fequal_c (w : World) (u v : Value) (a b : List ClauseI) (hu : Sl w 3 u (a.map ClauseI.cells)) (hv : Sl w 3 v (b.map ClauseI.cells)) : Calls Tryz.prog 15 #[u, v] w (Ret (.bool (decide (a = b))) w) := by
  obtain ⟨A, c, rfl, h1, h2, h3⟩ := sl_get hu
  obtain ⟨B, d, rfl, k1, k2, k3⟩ := sl_get hv
  have HR : Hid ((a ≠ b → decide (a = b) = false) ∧ (a = b → decide (a = b) = true)) := ⟨fun h => decide_eq_false h, fun h => decide_eq_true h⟩
  generalize decide (a = b) = r at HR ⊢
  clear hu hv
  unfold maxLen at h2 k2
  obtain ⟨N, hN⟩ : ∃ N : Nat, min a.length b.length = N := ⟨_, rfl⟩
  have eN : min (a.length : Int) b.length = (N : Int) := by omega
  go_enter Tryz.func15, Tryz.ntmps15
  go_wp2_with fail
  go_loopw [11] (fun i wr => ∃ k : Nat, k ≤ N ∧ i = .int .i64 k ∧ Ext w wr ∧ Hid (a.take k = b.take k)) (fun i _ => N - (intOf i).toNat)
  case atStart => exact ⟨0, by omega, rfl, Ext.refl _, rfl⟩
  case round =>
    obtain ⟨k, hk, rfl, hE, ht⟩ := hrel
    have HE := hid hE
    by_cases hkn : k < N
    · have hka : k < a.length := by omega
      have hkb : k < b.length := by omega
      obtain ⟨b1, o1, rfl, lb1, hcell1⟩ := h3 (by omega)
      obtain ⟨b2, o2, rfl, lb2, hcell2⟩ := k3 (by omega)
      have c0 := hE.cell (hcell1 k hka 0 _ rfl)
      have c1 := hE.cell (hcell1 k hka 1 _ rfl)
      have c2 := hE.cell (hcell1 k hka 2 _ rfl)
      have d0 := hE.cell (hcell2 k hkb 0 _ rfl)
      have d1 := hE.cell (hcell2 k hkb 1 _ rfl)
      have d2 := hE.cell (hcell2 k hkb 2 _ rfl)
      rw [Nat.add_zero] at c0 d0
      have lr1 := Nat.lt_of_lt_of_le lb1 hE.size
      have lr2 := Nat.lt_of_lt_of_le lb2 hE.size
      have HNe : Hid (a[k] ≠ b[k] → r = false) := fun h => HR.out.1 (fun e => h (by subst e; rfl))
      have HNx : Hid (a[k] = b[k] → a.take (k + 1) = b.take (k + 1)) := fun h => by
        rw [List.take_succ_eq_append_getElem hka, List.take_succ_eq_append_getElem hkb, ht.out, h]
      clear hcell1 hcell2 h3 k3 hE ht HR
      generalize a[k] = x at c0 c1 c2 HNe HNx
      generalize b[k] = y at d0 d1 d2 HNe HNx
      by_cases hxy : x = y
      · have e1 : eqC x.pre x.lo x.hi y.pre y.lo y.hi = true := by subst hxy; simp [eqC]
        have HNx := hid (HNx.out hxy)
        clear HNe hxy
        go_wp2_with fail
        refine wp_region_any_order (by kernel_rfl) (by kernel_rfl) (by kernel_rfl) ?_
        repeat (first
          | (refine AWq.val rfl rfl rfl rfl (fun K hK => ?_); go_big_quiet_op; refine hK _ ?_; clear hK K)
          | (refine AWq.skip rfl rfl rfl ?_; simp only [Act.put, List.setIfInBounds_toArray, List.set_cons_succ, List.set_cons_zero]))
        refine AWq.done rfl rfl rfl (fun w5 x5 => ?_)
        simp only [closeAny, Act.put, List.setIfInBounds_toArray, List.set_cons_succ, List.set_cons_zero]
        go_wp2_with fail
        go_roundw
        case rel => exact ⟨k + 1, by omega, by go_num, HE.out.trans x5, HNx.out⟩
        case measure => simp [intOf]; omega
      · have e1 : eqC x.pre x.lo x.hi y.pre y.lo y.hi = false := by
          unfold eqC
          rw [decide_eq_false_iff_not]
          rintro ⟨q1, q2, q3⟩
          exact hxy (by cases x; cases y; simp_all)
        have HNe := hid (HNe.out hxy)
        clear HNx hxy
        go_wp2_with fail
        refine wp_region_any_order (by kernel_rfl) (by kernel_rfl) (by kernel_rfl) ?_
        repeat (first
          | (refine AWq.val rfl rfl rfl rfl (fun K hK => ?_); go_big_quiet_op; refine hK _ ?_; clear hK K)
          | (refine AWq.skip rfl rfl rfl ?_; simp only [Act.put, List.setIfInBounds_toArray, List.set_cons_succ, List.set_cons_zero]))
        refine AWq.done rfl rfl rfl (fun w5 x5 => ?_)
        simp only [closeAny, Act.put, List.setIfInBounds_toArray, List.set_cons_succ, List.set_cons_zero]
        go_wp2_with fail
        go_ret
        exact ⟨by rw [HNe.out]; rfl, HE.out.trans x5⟩
    · obtain rfl : k = N := by omega
      by_cases hlen : a.length = b.length
      · have dl : ((a.length : Int) == b.length) = true := by simp [hlen]
        have hr : Hid (r = true) := HR.out.2 (by
          have := ht.out
          rw [← hN, hlen, Nat.min_self, List.take_length, ← hlen, List.take_length] at this
          exact this)
        clear hE h3 k3 ht HR hlen
        go_wp2_with fail
        go_ret
        exact ⟨by rw [hr.out]; rfl, HE.out⟩
      · have dl : ((a.length : Int) == b.length) = false := by simp; omega
        have hr : Hid (r = false) := HR.out.1 (fun e => hlen (by rw [e]))
        clear hE h3 k3 ht HR hlen
        go_wp2_with fail
        go_ret
        exact ⟨by rw [hr.out]; rfl, HE.out⟩
set_option maxHeartbeats 1000000 in
theorem fsame_c (w : World) (u v : Value) (a b : List ClauseI) (hu : Sl w 3 u (a.map ClauseI.cells)) (hv : Sl w 3 v (b.map ClauseI.cells)) (ha : a.length ≤ 5000) (hb : b.length ≤ 5000) (la : LightF a) (lb : LightF b) : Calls Tryz.prog 13 #[u, v] w (Ret (.bool (decide (normF a = normF b))) w) := by
  have HNa := hid (fnorm_c w u a hu ha la)
  have HNb := fun W (hW : Ext w W) => hid (fnorm_c W v b (hv.ext hW) hb lb)
  obtain ⟨A, c, rfl, _⟩ := sl_get hu
  obtain ⟨B, d, rfl, _⟩ := sl_get hv
  have HEq := fun W x y hx hy => hid (fequal_c W x y (normF a) (normF b) hx hy)
  generalize decide (normF a = normF b) = r at HEq ⊢
  generalize normF a = na at HNa HEq
  generalize normF b = nb at HNb HEq
  clear hu hv
  go_enter Tryz.func13, Tryz.ntmps13
  go_wp2_with (first
    | (go_at_call 15; refine ((HEq _ _ _ HV1.out.1 HV2.out.1).out).mono ?_; rintro e w3 ⟨rfl, hx3⟩; have HX3 := hid (HX2.out.trans hx3); clear hx3)
    | (go_at_call 8; have hx0 := HX1.out; clear hx0; refine ((HNb _ HX1.out).out).mono ?_; rintro e w2 ⟨v2, rfl, hv2, hx2⟩; have HV2 := hid hv2; have HV1' := hid (HV1.out.ext hx2); clear HV1; have HV1 := HV1'; clear HV1'; have HX2 := hid (HX1.out.trans hx2); clear hv2 hx2)
    | (go_at_call 8; refine ((HNa).out).mono ?_; rintro e w1 ⟨v1, rfl, hv1, hx1⟩; have HV1 := hid hv1; have HX1 := hid hx1; clear hv1 hx1))
  go_ret
  exact ⟨rfl, HX3.out⟩
end Go.Proofs.YtgkdiknmjgpgmaaGreatDoor
