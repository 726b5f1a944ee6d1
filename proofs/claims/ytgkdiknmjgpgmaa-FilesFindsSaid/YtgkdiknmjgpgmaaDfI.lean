/-
  The same turns; names and data; diff.Right.
-/
import Derived.Test.YtgkdiknmjgpgmaaDfH
namespace Go.Proofs.Ytgkdiknmjgpgmaa
set_option linter.unusedSimpArgs false
set_option linter.unusedVariables false
open Go.RowKit Go.Sort

theorem run_eqs_turn (k : Int) (n f d : ByteArray) (w : World) : (Op.equalIn 10000 58 (.agg #[.int .i64 k, .string n, .string f, .string d]) (.agg #[.int .i64 k, .string n, .string f, .string d])).run Try.prog w = .ok true w := by
  simp [go_sem]
attribute [go_sem 2000] run_eqs_turn
set_option maxRecDepth 100000 in
set_option maxHeartbeats 1000000 in
theorem tsame_c (w : World) (u v : Value) (l : List TurnI) (hu : Sl w 4 u (l.map TurnI.cells)) (hv : Sl w 4 v (l.map TurnI.cells)) : Calls Try.prog 32 #[u, v] w (Ret (.bool true) w) := by
  obtain ⟨A, c, rfl, h1, h2, h3⟩ := sl_get hu
  obtain ⟨B, d, rfl, k1, k2, k3⟩ := sl_get hv
  clear hu hv
  unfold maxLen at h2 k2
  go_enter Try.func32, Try.ntmps32
  go_wp2_with fail
  go_loopw [5] (fun i wr => ∃ k : Nat, k ≤ l.length ∧ i = .int .i64 k ∧ Ext w wr) (fun i _ => l.length - (intOf i).toNat)
  case atStart => exact ⟨0, by omega, rfl, Ext.refl _⟩
  case round =>
    obtain ⟨k, hk, rfl, hE⟩ := hrel
    by_cases hlt : k < l.length
    · obtain ⟨b, o, rfl, lb, hcell⟩ := h3 (by omega)
      obtain ⟨b', o', rfl, lb', hcell'⟩ := k3 (by omega)
      have c0 := hE.cell (hcell k hlt 0 _ rfl)
      have c1 := hE.cell (hcell k hlt 1 _ rfl)
      have c2 := hE.cell (hcell k hlt 2 _ rfl)
      have c3 := hE.cell (hcell k hlt 3 _ rfl)
      have d0 := hE.cell (hcell' k hlt 0 _ rfl)
      have d1 := hE.cell (hcell' k hlt 1 _ rfl)
      have d2 := hE.cell (hcell' k hlt 2 _ rfl)
      have d3 := hE.cell (hcell' k hlt 3 _ rfl)
      rw [Nat.add_zero] at c0 d0
      have HE := hid hE
      clear hcell hcell' h3 k3 hE
      generalize l[k] = x at *
      go_wp2_with fail
      go_quiet (fail)
      go_wp2_with fail
      exact ⟨⟨k + 1, by omega, by go_num, HE.out.drewN' _⟩, by simp [intOf]; omega⟩
    · have HE := hid hE
      clear hE h3 k3
      go_wp2_with fail
      go_ret
      exact ⟨rfl, HE.out⟩

def oneS (n d : ByteArray) : ByteArray := (n ++ ⟨#[61]⟩) ++ d
set_option maxHeartbeats 400000 in
theorem one_c (n d : ByteArray) (w : World) (hn : n.size ≤ 1000) (hd : d.size ≤ 1000) : Calls Try.prog 57 #[.string n, .string d] w (Ret (.string (oneS n d)) w) := by
  unfold oneS
  go_enter Try.func57, Try.ntmps57
  go_wp2_with fail
  go_ret
  exact ⟨rfl, Ext.refl _⟩
def namesK (l : List LeafI) : List ByteArray := l.map fun x => oneS x.name x.d
theorem namesK_take (l : List LeafI) (k : Nat) (h : k < l.length) : namesK (l.take (k + 1)) = namesK (l.take k) ++ [oneS l[k].name l[k].d] := by
  unfold namesK
  rw [List.take_succ_eq_append_getElem h, List.map_append]; rfl
theorem namesK_len (l : List LeafI) (k : Nat) (h : k ≤ l.length) : (namesK (l.take k)).length = k := by
  unfold namesK
  rw [List.length_map, List.length_take]; omega
set_option maxRecDepth 100000 in
set_option maxHeartbeats 2000000 in
theorem dnames_c (w : World) (u : Value) (l : List LeafI) (h : Sl w 5 u (l.map LeafI.cells)) (hl : l.length ≤ 1000) (hsz : ∀ x ∈ l, x.name.size ≤ 1000 ∧ x.d.size ≤ 1000) : Calls Try.prog 34 #[u] w (RetQ (RowAt strC 1 (namesK l)) w) := by
  obtain ⟨A, c, rfl, h1, h2, h3⟩ := sl_get h
  unfold maxLen at h2
  have HZs := hid hsz
  clear h hsz
  go_enter Try.func34, Try.ntmps34
  go_wp2_with fail
  go_loopw [3, 8] (fun v i wr => ∃ k : Nat, k ≤ l.length ∧ i = .int .i64 k ∧ Ext w wr ∧ (k = 0 → v = .slice none 0 0) ∧ wr.ownsRow w.heap.size 9 1 v (namesK (l.take k)).length ((namesK (l.take k)).map strC).flatten) (fun _ i _ => l.length - (intOf i).toNat)
  case atStart => exact ⟨0, by omega, rfl, Ext.refl _, (fun _ => rfl), ownsRow_nil _ _ _ _⟩
  case round =>
    obtain ⟨k, hk, rfl, hE, hz, hO⟩ := hrel
    have HE := hid hE
    have HO := hid hO
    have HZ := hid hz
    by_cases hlt : k < l.length
    · obtain ⟨b', o, rfl, lb, hcell⟩ := h3 (by omega)
      have c0 := hE.cell (hcell k hlt 0 _ rfl)
      have c1_ := hE.cell (hcell k hlt 1 _ rfl)
      have c2 := hE.cell (hcell k hlt 2 _ rfl)
      have c3 := hE.cell (hcell k hlt 3 _ rfl)
      have c4 := hE.cell (hcell k hlt 4 _ rfl)
      rw [Nat.add_zero] at c0
      have lbr := Nat.lt_of_lt_of_le lb hE.size
      have HS := hid (namesK_take l k hlt)
      obtain ⟨z1, z2⟩ := HZs.out _ (List.getElem_mem hlt)
      have HLn := hid (namesK_len l k hk)
      clear hE hcell h3 hz hO
      generalize l[k] = z at c0 c1_ c2 c3 c4 HS z1 z2
      generalize namesK (l.take k) = acc at HO HS HLn
      go_wp2_with (first
        | (at_builtin; obtain ⟨v', w6, hrun6, ho6, hk6, _⟩ := app_one (P := Try.prog) str_elem str_coded (ownsRow_ext HO.out HX5.out) (Nat.le_trans HE.out.size HX5.out.size) (oneS z.name z.d) (by have := HLn.out; omega) (by omega); simp only [strC] at hrun6; have HE6 := hid (hk6.toExt (HE.out.trans HX5.out) (fun q hq => (row_block HO.out q hq).1)); have HO6 := hid ho6; clear ho6 hk6; refine wpList_app rfl (.tmp 12) (.tmp 18) _ _ rfl rfl rfl hrun6 ?_)
        | (go_at_call 57; refine (one_c _ _ _ z1 z2).mono ?_; rintro e w5 ⟨rfl, hx5⟩; have HX5 := hid ((Ext.alloc _ _).trans hx5); clear hx5))
      go_roundw
      case rel => exact ⟨k + 1, by omega, by go_num, HE6.out, (fun h => by omega), by rw [HS.out]; exact HO6.out⟩
      case measure => simp [intOf]; omega
    · obtain rfl : k = l.length := by omega
      rw [List.take_length] at hO
      have hrow := RowAt.of_row str_coded hO (fun h0 => hz (by unfold namesK at h0; rwa [List.length_map] at h0))
      have HR := hid hrow
      clear hE h3 hz hO hrow HO HZ
      go_wp2_with fail
      go_ret
      exact ⟨_, rfl, HR.out, HE.out⟩
set_option maxRecDepth 100000 in
set_option maxHeartbeats 2000000 in
theorem rnames_c (w : World) (u : Value) (l : List LeafI) (h : Sl w 5 u (l.map LeafI.cells)) (hl : l.length ≤ 1000) (hsz : ∀ x ∈ l, x.name.size ≤ 1000 ∧ x.d.size ≤ 1000) : Calls Try.prog 28 #[u] w (RetQ (RowAt strC 1 (namesK l)) w) := by
  obtain ⟨A, c, rfl, h1, h2, h3⟩ := sl_get h
  unfold maxLen at h2
  have HZs := hid hsz
  clear h hsz
  go_enter Try.func28, Try.ntmps28
  go_wp2_with fail
  go_loopw [3, 4] (fun v i wr => ∃ k : Nat, k ≤ l.length ∧ i = .int .i64 k ∧ Ext w wr ∧ (k = 0 → v = .slice none 0 0) ∧ wr.ownsRow w.heap.size 9 1 v (namesK (l.take k)).length ((namesK (l.take k)).map strC).flatten) (fun _ i _ => l.length - (intOf i).toNat)
  case atStart => exact ⟨0, by omega, rfl, Ext.refl _, (fun _ => rfl), ownsRow_nil _ _ _ _⟩
  case round =>
    obtain ⟨k, hk, rfl, hE, hz, hO⟩ := hrel
    have HE := hid hE
    have HO := hid hO
    have HZ := hid hz
    by_cases hlt : k < l.length
    · obtain ⟨b', o, rfl, lb, hcell⟩ := h3 (by omega)
      have c0 := hE.cell (hcell k hlt 0 _ rfl)
      have c4 := hE.cell (hcell k hlt 4 _ rfl)
      rw [Nat.add_zero] at c0
      have lbr := Nat.lt_of_lt_of_le lb hE.size
      have HS := hid (namesK_take l k hlt)
      obtain ⟨z1, z2⟩ := HZs.out _ (List.getElem_mem hlt)
      have HLn := hid (namesK_len l k hk)
      clear hE hcell h3 hz hO
      generalize l[k] = z at c0 c4 HS z1 z2
      generalize namesK (l.take k) = acc at HO HS HLn
      go_wp2_with fail
      refine wp_region_two (pre := ?pre1) (z1 := ?z11) (z2 := ?z21) ?hpre1 ?hz11 ?hz21 (by kernel_rfl) (by kernel_rfl) (by kernel_rfl) (by kernel_rfl) (by kernel_rfl) ?_
      case hpre1 => (simp only [List.dropLast_cons_cons, List.dropLast_singleton]; first | done | exact rfl)
      case hz11 => (simp only [List.dropLast_cons_cons, List.dropLast_singleton, List.getLast?_cons_cons, List.getLast?_singleton]; first | done | exact rfl)
      case hz21 => (simp only [List.getLast?_cons_cons, List.getLast?_singleton]; first | done | exact rfl)
      repeat (first
        | (refine AWq.val rfl rfl rfl rfl (fun K hK => ?_); go_big_quiet_op; refine hK _ ?_; clear hK K)
        | (refine AWq.skip rfl rfl rfl ?_; simp only [Act.put, List.setIfInBounds_toArray, List.set_cons_succ, List.set_cons_zero])
        | (refine AWq.opV (NewSl 9 #[.string (oneS z.name z.d)] 1 1) (NewSl.steady _ _ _ _) rfl rfl rfl rfl (fun wc hc => ?_) ?_; (· (have hc' := hc.rule; clear hc; go_simp; dsimp only [Gives]; exact ⟨⟨_, rfl, Blk.new _ _ _⟩, Ext.alloc _ _⟩))))
      refine AWq.two rfl rfl rfl (fun w2 x2 => ?_)
      simp only [closeAny, Act.put, List.setIfInBounds_toArray, List.set_cons_succ, List.set_cons_zero]
      intro u hu
      obtain ⟨v', wn, hrun, ho, hk', _, _⟩ := app_row (P := Try.prog) (ty := 47) str_elem (ownsRow_ext HO.out x2) (Nat.le_trans HE.out.size x2.size) (src_new Try.underlying47 hu (sz := 1) rfl (str_coded.one (oneS z.name z.d))) (by have := HLn.out; unfold maxLen; omega) (by have := HLn.out; omega)
      have HE6 := hid (hk'.toExt (HE.out.trans x2) (fun q hq => (row_block HO.out q hq).1))
      have HO6 := hid (row_snoc (code := strC) (x := oneS z.name z.d) ho)
      clear hu ho hk' x2
      go_wp2_with (at_builtin; refine wpList_app rfl (.tmp 11) (.tmp 24) _ _ rfl rfl rfl hrun ?_)
      go_roundw
      case rel => exact ⟨k + 1, by omega, by go_num, HE6.out, (fun h => by omega), by rw [HS.out]; exact HO6.out⟩
      case measure => simp [intOf]; omega
    · obtain rfl : k = l.length := by omega
      rw [List.take_length] at hO
      have hrow := RowAt.of_row str_coded hO (fun h0 => hz (by unfold namesK at h0; rwa [List.length_map] at h0))
      have HR := hid hrow
      clear hE h3 hz hO hrow HO HZ
      go_wp2_with fail
      go_ret
      exact ⟨_, rfl, HR.out, HE.out⟩
set_option maxRecDepth 100000 in
set_option maxHeartbeats 2000000 in
theorem dright_c (w : World) (u : Value) (l : List LeafI) (h : Sl w 5 u (l.map LeafI.cells)) (hl : l.length ≤ 1000) : Calls Try.prog 29 #[u] w (Ret (.bool (rightB l)) w) := by
  obtain ⟨A, c, rfl, h1, h2, h3⟩ := sl_get h
  unfold maxLen at h2
  clear h
  go_enter Try.func29, Try.ntmps29
  go_wp2_with fail
  go_loopw [3, 8] (fun v i wr => ∃ k : Nat, k ≤ l.length ∧ i = .int .i64 k ∧ RiseTo l k ∧ Ext w wr ∧ (k = 0 → v = .slice none 0 0) ∧ wr.ownsRow w.heap.size 26 2 v ((l.take k).map (·.item)).length (((l.take k).map (·.item)).map Ver.cells).flatten) (fun _ i _ => l.length - (intOf i).toNat)
  case atStart => exact ⟨0, by omega, rfl, (fun j _ h => by omega), Ext.refl _, (fun _ => rfl), ownsRow_nil _ _ _ _⟩
  case round =>
    obtain ⟨k, hk, rfl, hR, hE, hz, hO⟩ := hrel
    have HE := hid hE
    have HO := hid hO
    have HZ := hid hz
    by_cases hlt : k < l.length
    · obtain ⟨b', o, rfl, lb, hcell⟩ := h3 (by omega)
      have c0 := hE.cell (hcell k hlt 0 _ rfl)
      have c1_ := hE.cell (hcell k hlt 1 _ rfl)
      have c2 := hE.cell (hcell k hlt 2 _ rfl)
      have c3 := hE.cell (hcell k hlt 3 _ rfl)
      have c4 := hE.cell (hcell k hlt 4 _ rfl)
      rw [Nat.add_zero] at c0
      have lbr := Nat.lt_of_lt_of_le lb hE.size
      have HS : Hid ((l.take (k + 1)).map (·.item) = (l.take k).map (·.item) ++ [l[k].item]) := by unfold Hid; rw [List.take_succ_eq_append_getElem hlt, List.map_append]; rfl
      have HLn : Hid (((l.take k).map (·.item)).length ≤ 1000) := by unfold Hid; rw [List.length_map, List.length_take]; omega
      by_cases h0 : k = 0
      · have d0 : decide (0 < k) = false := by simp [h0]
        have HR : Hid (RiseTo l (k + 1)) := riseTo_succ hR (fun j _ e => by omega)
        clear hE hcell h3 hz hO hR h0
        generalize l[k] = z at c0 c1_ c2 c3 c4 HS
        generalize (l.take k).map (·.item) = acc at HO HS HLn
        go_wp2_with fail
        clear c0 c1_ c2 c3 c4 lbr
        have e1 := Ext.alloc wr (.cells #[.string z.name, .string z.path, .int .i64 z.item.by_, .int .i64 z.item.n, .string z.d] 35)
        have hB := Blk.new wr 35 #[.string z.name, .string z.path, .int .i64 z.item.by_, .int .i64 z.item.n, .string z.d]
        obtain ⟨q, hq⟩ : ∃ q, q = wr.heap.size := ⟨_, rfl⟩
        rw [← hq] at hB ⊢
        clear hq
        generalize wr.alloc (.cells #[.string z.name, .string z.path, .int .i64 z.item.by_, .int .i64 z.item.n, .string z.d] 35) = w1 at e1 hB ⊢
        have p0 := hB.cell (i := 0) (v := .string z.name) rfl
        have lq := hB.lt
        skip
        refine wp_region_any_order (by kernel_rfl) (by kernel_rfl) (by kernel_rfl) ?_
        repeat (first
          | (refine AWq.val rfl rfl rfl rfl (fun K hK => ?_); go_big_quiet_op; refine hK _ ?_; clear hK K)
          | (refine AWq.skip rfl rfl rfl ?_; simp only [Act.put, List.setIfInBounds_toArray, List.set_cons_succ, List.set_cons_zero]))
        refine AWq.done rfl rfl rfl (fun w2 x2 => ?_)
        simp only [closeAny, Act.put, List.setIfInBounds_toArray, List.set_cons_succ, List.set_cons_zero]
        have hb2 := hB.ext x2
        have q2 := hb2.cell (i := 2) (v := .int .i64 z.item.by_) rfl
        have q3 := hb2.cell (i := 3) (v := .int .i64 z.item.n) rfl
        have lq2 := hb2.lt
        have HX := hid (e1.trans x2)
        clear hB hb2 e1 x2 p0 lq
        obtain ⟨v', w6, hrun6, ho6, hk6, _⟩ := app_one (P := Try.prog) ver_elem ver_coded (ownsRow_ext HO.out HX.out) (Nat.le_trans HE.out.size HX.out.size) z.item (by have := HLn.out; omega) (by omega)
        simp only [Ver.cells] at hrun6
        have HE6 := hid (hk6.toExt (HE.out.trans HX.out) (fun q hq => (row_block HO.out q hq).1))
        have HO6 := hid ho6
        clear ho6 hk6
        go_wp2_with (at_builtin; refine wpList_app rfl (.tmp 26) (.tmp 29) _ _ rfl rfl rfl hrun6 ?_)
        go_roundw
        case rel => exact ⟨k + 1, by omega, by go_num, HR.out, HE6.out, (fun h => by omega), by rw [HS.out]; exact HO6.out⟩
        case measure => simp [intOf]; omega
      · have d0 : decide (0 < k) = true := by simp; omega
        obtain ⟨j, rfl⟩ : ∃ j, k = j + 1 := ⟨k - 1, by omega⟩
        have hj : j < l.length := Nat.lt_of_succ_lt hlt
        have e0 := hE.cell (hcell j hj 0 _ rfl)
        rw [Nat.add_zero] at e0
        by_cases hb : blt l[j].name l[j + 1].name = true
        · have d1 : Op.bytesLess l[j].name.toList l[j + 1].name.toList = true := hb
          have HR : Hid (RiseTo l (j + 1 + 1)) := riseTo_succ hR (fun i hi e => by obtain rfl : i = j := Nat.succ.inj e; exact hb)
          clear hE hcell h3 hz hO hR h0 hb
          generalize l[j + 1] = z at c0 c1_ c2 c3 c4 HS d1
          generalize l[j] = y at e0 d1
          generalize (l.take (j + 1)).map (·.item) = acc at HO HS HLn
          go_wp2_with fail
          clear c0 c1_ c2 c3 c4
          have e1 := Ext.alloc wr (.cells #[.string z.name, .string z.path, .int .i64 z.item.by_, .int .i64 z.item.n, .string z.d] 35)
          have hB := Blk.new wr 35 #[.string z.name, .string z.path, .int .i64 z.item.by_, .int .i64 z.item.n, .string z.d]
          obtain ⟨q, hq⟩ : ∃ q, q = wr.heap.size := ⟨_, rfl⟩
          rw [← hq] at hB ⊢
          clear hq
          generalize wr.alloc (.cells #[.string z.name, .string z.path, .int .i64 z.item.by_, .int .i64 z.item.n, .string z.d] 35) = w1 at e1 hB ⊢
          have p0 := hB.cell (i := 0) (v := .string z.name) rfl
          have lq := hB.lt
          have g0 := e1.cell e0; have lg := Nat.lt_of_lt_of_le lbr e1.size; clear e0 lbr
          refine wp_region_any_order (by kernel_rfl) (by kernel_rfl) (by kernel_rfl) ?_
          repeat (first
            | (refine AWq.val rfl rfl rfl rfl (fun K hK => ?_); go_big_quiet_op; refine hK _ ?_; clear hK K)
            | (refine AWq.skip rfl rfl rfl ?_; simp only [Act.put, List.setIfInBounds_toArray, List.set_cons_succ, List.set_cons_zero]))
          refine AWq.done rfl rfl rfl (fun w2 x2 => ?_)
          simp only [closeAny, Act.put, List.setIfInBounds_toArray, List.set_cons_succ, List.set_cons_zero]
          have hb2 := hB.ext x2
          have q2 := hb2.cell (i := 2) (v := .int .i64 z.item.by_) rfl
          have q3 := hb2.cell (i := 3) (v := .int .i64 z.item.n) rfl
          have lq2 := hb2.lt
          have HX := hid (e1.trans x2)
          clear hB hb2 e1 x2 p0 lq
          obtain ⟨v', w6, hrun6, ho6, hk6, _⟩ := app_one (P := Try.prog) ver_elem ver_coded (ownsRow_ext HO.out HX.out) (Nat.le_trans HE.out.size HX.out.size) z.item (by have := HLn.out; omega) (by omega)
          simp only [Ver.cells] at hrun6
          have HE6 := hid (hk6.toExt (HE.out.trans HX.out) (fun q hq => (row_block HO.out q hq).1))
          have HO6 := hid ho6
          clear ho6 hk6
          go_wp2_with (at_builtin; refine wpList_app rfl (.tmp 26) (.tmp 29) _ _ rfl rfl rfl hrun6 ?_)
          go_roundw
          case rel => exact ⟨j + 1 + 1, by omega, by go_num, HR.out, HE6.out, (fun h => by omega), by rw [HS.out]; exact HO6.out⟩
          case measure => simp [intOf]; omega
        · have d1 : Op.bytesLess l[j].name.toList l[j + 1].name.toList = false := by
            have : blt l[j].name l[j + 1].name = false := by simpa using hb
            exact this
          have HR : Hid (rightB l = false) := rightB_false fun hh => hb (hh.1 j hlt)
          clear hE hcell h3 hz hO hR h0 hb HS
          generalize l[j + 1] = z at c0 c1_ c2 c3 c4 d1
          generalize l[j] = y at e0 d1
          go_wp2_with fail
          clear c0 c1_ c2 c3 c4
          have e1 := Ext.alloc wr (.cells #[.string z.name, .string z.path, .int .i64 z.item.by_, .int .i64 z.item.n, .string z.d] 35)
          have hB := Blk.new wr 35 #[.string z.name, .string z.path, .int .i64 z.item.by_, .int .i64 z.item.n, .string z.d]
          obtain ⟨q, hq⟩ : ∃ q, q = wr.heap.size := ⟨_, rfl⟩
          rw [← hq] at hB ⊢
          clear hq
          generalize wr.alloc (.cells #[.string z.name, .string z.path, .int .i64 z.item.by_, .int .i64 z.item.n, .string z.d] 35) = w1 at e1 hB ⊢
          have p0 := hB.cell (i := 0) (v := .string z.name) rfl
          have lq := hB.lt
          have g0 := e1.cell e0; have lg := Nat.lt_of_lt_of_le lbr e1.size; clear e0 lbr
          refine wp_region_any_order (by kernel_rfl) (by kernel_rfl) (by kernel_rfl) ?_
          repeat (first
            | (refine AWq.val rfl rfl rfl rfl (fun K hK => ?_); go_big_quiet_op; refine hK _ ?_; clear hK K)
            | (refine AWq.skip rfl rfl rfl ?_; simp only [Act.put, List.setIfInBounds_toArray, List.set_cons_succ, List.set_cons_zero]))
          refine AWq.done rfl rfl rfl (fun w2 x2 => ?_)
          simp only [closeAny, Act.put, List.setIfInBounds_toArray, List.set_cons_succ, List.set_cons_zero]
          have hb2 := hB.ext x2
          have q2 := hb2.cell (i := 2) (v := .int .i64 z.item.by_) rfl
          have q3 := hb2.cell (i := 3) (v := .int .i64 z.item.n) rfl
          have lq2 := hb2.lt
          have HX := hid (e1.trans x2)
          clear hB hb2 e1 x2 p0 lq
          go_wp2_with fail
          go_ret
          exact ⟨by rw [HR.out]; rfl, HE.out.trans HX.out⟩
    · obtain rfl : k = l.length := by omega
      rw [List.take_length] at hO
      have hrow := RowAt.of_row ver_coded hO (fun h0 => hz (by rwa [List.length_map] at h0))
      have HV := hid (vsort_c wr _ _ hrow.1 (by rw [List.length_map]; omega))
      have hRise : Rising l := fun j hj => hR j hj (by omega)
      have hres : rightB l = ((setL Ver.lt (l.map (·.item))).length == l.length) := by
        have hf := full_once l
        unfold itemsL at hf
        by_cases e : (setL Ver.lt (l.map (·.item))).length = l.length
        · rw [rightB_true ⟨hRise, hf.1 e⟩]; simp [e]
        · rw [rightB_false (fun hh => e (hf.2 hh.2))]; simp [e]
      have HRes := hid hres
      have hle := setL_length Ver.strict (l.map (·.item))
      rw [List.length_map] at hle
      clear hE h3 hz hO hrow HO HZ hR hRise hres
      generalize setL Ver.lt (l.map (·.item)) = its at HV HRes hle
      go_wp2_with (go_at_call 58; refine (HV.out).mono ?_; rintro e w2 ⟨vi, rfl, hvi, hx2⟩; obtain ⟨A2, c2, rfl, _⟩ := sl_get hvi.1; have HE2 := hid (HE.out.trans hx2); clear hvi hx2)
      go_ret
      refine ⟨?_, HE2.out⟩
      rw [HRes.out]
      congr 2
      simp [Bool.beq_eq_decide_eq]
      omega
end Go.Proofs.Ytgkdiknmjgpgmaa
