/-
  files.Under; the document's Same; few.
-/
import Derived.Test.YtgkdiknmjgpgmaaFnI
import Derived.Test.YtgkdiknmjgpgmaaCov
import Derived.Test.YtgkdiknmjgpgmaaFlH
namespace Go.Proofs.Ytgkdiknmjgpgmaa
set_option linter.unusedSimpArgs false
set_option linter.unusedVariables false
open Go.RowKit Go.Sort

def underL (p : ByteArray) (l : List LeafI) : List LeafI := l.filter fun x => cov p x.path
theorem underL_take {p : ByteArray} {l : List LeafI} {k : Nat} (h : k < l.length) : underL p (l.take (k + 1)) = if cov p l[k].path then underL p (l.take k) ++ [l[k]] else underL p (l.take k) := by
  unfold underL
  rw [List.take_succ_eq_append_getElem h, List.filter_append, List.filter_cons, List.filter_nil]
  split <;> simp
theorem underL_len (p : ByteArray) (l : List LeafI) (k : Nat) : (underL p (l.take k)).length ≤ k := by
  have h1 := List.length_filter_le (fun x : LeafI => cov p x.path) (l.take k)
  rw [List.length_take] at h1
  unfold underL
  omega
set_option maxRecDepth 100000 in
set_option maxHeartbeats 4000000 in
theorem funder_c (w : World) (v : Value) (l : List LeafI) (p : ByteArray) (h : Sl w 5 v (l.map LeafI.cells)) (hl : l.length ≤ 1000) (hp : p.size ≤ 1000) (hs : ∀ x ∈ l, x.path.size ≤ 1000) : Calls Try.prog 22 #[v, .string p] w (RetQ (RowAt LeafI.cells 5 (underL p l)) w) := by
  obtain ⟨A, c, rfl, h1, h2, h3⟩ := sl_get h
  unfold maxLen at h2
  have HSz := hid hs
  clear h hs
  go_enter Try.func22, Try.ntmps22
  go_wp2_with fail
  go_loopw [5, 10] (fun v i wr => ∃ k : Nat, k ≤ l.length ∧ i = .int .i64 k ∧ Ext w wr ∧ ((underL p (l.take k)).length = 0 → v = .slice none 0 0) ∧ wr.ownsRow w.heap.size 35 5 v (underL p (l.take k)).length ((underL p (l.take k)).map LeafI.cells).flatten) (fun _ i _ => l.length - (intOf i).toNat)
  case atStart => exact ⟨0, by omega, rfl, Ext.refl _, (fun _ => rfl), ownsRow_nil _ _ _ _⟩
  case round =>
    obtain ⟨k, hk, rfl, hE, hz, hO⟩ := hrel
    have HE := hid hE
    have HO := hid hO
    have HZ := hid hz
    by_cases hlt : k < l.length
    · obtain ⟨b', o, rfl, lb, hcell⟩ := h3 (by omega)
      have c0 := hE.cell (hcell k hlt 0 _ rfl)
      have c1 := hE.cell (hcell k hlt 1 _ rfl)
      have c2 := hE.cell (hcell k hlt 2 _ rfl)
      have c3 := hE.cell (hcell k hlt 3 _ rfl)
      have c4 := hE.cell (hcell k hlt 4 _ rfl)
      rw [Nat.add_zero] at c0
      have lbr := Nat.lt_of_lt_of_le lb hE.size
      have HM := hid (underL_take (p := p) hlt)
      have hln := underL_len p l k
      have hsz := HSz.out _ (List.getElem_mem hlt)
      clear hcell h3 hE hz hO
      generalize underL p (l.take k) = acc at HO HZ HM hln
      generalize l[k] = x at c0 c1 c2 c3 c4 HM hsz
      have HC := fun W => hid (pcovers_c p x.path W (by unfold maxLen; omega) (by unfold maxLen; omega))
      have hE1 := Ext.alloc wr (.cells #[.string x.name, .string x.path, .int .i64 x.item.by_, .int .i64 x.item.n, .string x.d] 35)
      cases hc : cov p x.path with
      | false =>
        rw [hc] at HC HM
        rw [if_neg Bool.false_ne_true] at HM
        have HE1 := hid hE1
        clear hc hE1
        go_wp2_with (go_at_call 50; refine (HC _).out.mono ?_; rintro e w5 ⟨rfl, rfl⟩)
        go_roundw
        case rel => exact ⟨k + 1, by omega, by go_num, HE.out.trans HE1.out, (by rw [HM.out]; exact HZ.out), by rw [HM.out]; exact ownsRow_ext HO.out HE1.out⟩
        case measure => simp [intOf]; omega
      | true =>
        rw [hc] at HC HM
        rw [if_pos rfl] at HM
        obtain ⟨v', w6, hrun6, ho6, hk6, _⟩ := app_one (P := Try.prog) leaf_elem leaf_coded (ownsRow_ext HO.out hE1) (Nat.le_trans HE.out.size hE1.size) x (by omega) (by omega)
        simp only [LeafI.cells, World.size_alloc] at hrun6
        have HE6 := hid (hk6.toExt (HE.out.trans hE1) (fun q hq => (row_block HO.out q hq).1))
        have HO6 := hid ho6
        clear ho6 hk6 hE1 hc
        go_wp2_with (first
          | (at_builtin; refine wpList_app rfl (.tmp 18) (.tmp 20) _ _ rfl rfl rfl hrun6 ?_)
          | (go_at_call 50; refine (HC _).out.mono ?_; rintro e w5 ⟨rfl, rfl⟩))
        go_roundw
        case rel => exact ⟨k + 1, by omega, by go_num, HE6.out, (fun h => by rw [HM.out] at h; simp at h), by rw [HM.out]; exact HO6.out⟩
        case measure => simp [intOf]; omega
    · obtain rfl : k = l.length := by omega
      rw [List.take_length] at hO hz
      have hrow := RowAt.of_row leaf_coded hO hz
      have HR := hid hrow
      clear hE h3 hz hO hrow HO HZ
      go_wp2_with fail
      go_ret
      exact ⟨_, rfl, HR.out, HE.out⟩
theorem run_eqs_leaf (n p : ByteArray) (a b : Int) (d : ByteArray) (w : World) : (Op.equalIn 10000 35 (.agg #[.string n, .string p, .int .i64 a, .int .i64 b, .string d]) (.agg #[.string n, .string p, .int .i64 a, .int .i64 b, .string d])).run Try.prog w = .ok true w := by
  simp [go_sem]
attribute [go_sem 2000] run_eqs_leaf
set_option maxRecDepth 100000 in
set_option maxHeartbeats 1000000 in
theorem lsame_c (w : World) (u v : Value) (l : List LeafI) (hu : Sl w 5 u (l.map LeafI.cells)) (hv : Sl w 5 v (l.map LeafI.cells)) : Calls Try.prog 21 #[u, v] w (Ret (.bool true) w) := by
  obtain ⟨A, c, rfl, h1, h2, h3⟩ := sl_get hu
  obtain ⟨B, d, rfl, k1, k2, k3⟩ := sl_get hv
  clear hu hv
  unfold maxLen at h2 k2
  go_enter Try.func21, Try.ntmps21
  go_wp2_with fail
  go_loopw [5] (fun i wr => ∃ k : Nat, k ≤ l.length ∧ i = .int .i64 k ∧ Ext w wr) (fun i _ => l.length - (intOf i).toNat)
  case atStart => exact ⟨0, by omega, rfl, Ext.refl _⟩
  case round =>
    obtain ⟨k, hk, rfl, hE⟩ := hrel
    by_cases hlt : k < l.length
    · obtain ⟨b, o, rfl, lb, hcell⟩ := h3 (by omega)
      obtain ⟨b', o', rfl, lb', hcell'⟩ := k3 (by omega)
      have c0 := hE.cell (hcell k hlt 0 _ rfl)
      have c1 := hE.cell (hcell k hlt 1 _ rfl)
      have c2 := hE.cell (hcell k hlt 2 _ rfl)
      have c3 := hE.cell (hcell k hlt 3 _ rfl)
      have c4 := hE.cell (hcell k hlt 4 _ rfl)
      have d0 := hE.cell (hcell' k hlt 0 _ rfl)
      have d1 := hE.cell (hcell' k hlt 1 _ rfl)
      have d2 := hE.cell (hcell' k hlt 2 _ rfl)
      have d3 := hE.cell (hcell' k hlt 3 _ rfl)
      have d4 := hE.cell (hcell' k hlt 4 _ rfl)
      rw [Nat.add_zero] at c0 d0
      have HE := hid hE
      clear hcell hcell' h3 k3 hE
      generalize l[k] = x at *
      go_wp2_with fail
      go_quiet (fail)
      go_wp2_with fail
      exact ⟨⟨k + 1, by omega, by go_num, HE.out.drewN' _⟩, by simp [intOf]; omega⟩
    · have HE := hid hE
      clear hE h3 k3
      go_wp2_with fail
      go_ret
      exact ⟨rfl, HE.out⟩
set_option maxRecDepth 100000 in
set_option maxHeartbeats 4000000 in
theorem few20_e (w : World) (v : Value) (l : List UpdI) (h : Sl w 8 v (l.map UpdI.cells)) (hf : ∀ u ∈ l, okV u.item) : Calls Try.prog 10 #[v] w (RetQ (fun v' w' => ∃ bs : List UpdI, RowAt UpdI.cells 8 bs v' w' ∧ bs.length ≤ 25 ∧ ∀ u ∈ bs, Fine u) w) := by
  obtain ⟨A, c, rfl, h1, h2, h3⟩ := sl_get h
  have HF := hid hf
  unfold maxLen at h2
  clear h hf
  go_enter Try.func10, Try.ntmps10
  go_wp2_with fail
  go_loopw [3, 4] (fun ou i wr => ∃ (k : Nat) (bs : List UpdI), k ≤ l.length ∧ k ≤ 25 ∧ i = .int .i64 k ∧ Ext w wr ∧ bs.length ≤ k ∧ (∀ u ∈ bs, Fine u) ∧ (bs.length = 0 → ou = .slice none 0 0) ∧ wr.ownsRow w.heap.size 30 8 ou bs.length (bs.map UpdI.cells).flatten) (fun _ i _ => 25 - (intOf i).toNat)
  case atStart => exact ⟨0, [], by omega, by omega, rfl, Ext.refl _, by simp, by simp, (fun _ => rfl), ownsRow_nil _ _ _ _⟩
  case round =>
    obtain ⟨k, bs, hk, hk25, rfl, hE, hbl, hbf, hz, hO⟩ := hrel
    have HE := hid hE
    have HO := hid hO
    have HZ := hid hz
    have HBf := hid hbf
    by_cases hgo : k < l.length ∧ k < 25
    · obtain ⟨hlt, h25⟩ := hgo
      have d0 : decide ((k : Int) < 25) = true := by simp; omega
      obtain ⟨b, o, rfl, lb, hcell⟩ := h3 (by omega)
      have c0 := hE.cell (hcell k hlt 0 _ rfl)
      have c1 := hE.cell (hcell k hlt 1 _ rfl)
      have c2 := hE.cell (hcell k hlt 2 _ rfl)
      have c3 := hE.cell (hcell k hlt 3 _ rfl)
      have c4 := hE.cell (hcell k hlt 4 _ rfl)
      have c5 := hE.cell (hcell k hlt 5 _ rfl)
      have c6 := hE.cell (hcell k hlt 6 _ rfl)
      have c7 := hE.cell (hcell k hlt 7 _ rfl)
      rw [Nat.add_zero] at c0
      have lbr := Nat.lt_of_lt_of_le lb hE.size
      have hok := HF.out _ (List.getElem_mem hlt)
      clear hcell h3 hE hz hO hbf lb HF
      generalize l[k] = x at c0 c1 c2 c3 c4 c5 c6 c7 hok
      have HL := fun W => hid (light_c x W)
      unfold UpdI.val at HL
      cases hlx : lightU x with
      | false =>
        rw [hlx] at HL
        clear hlx
        go_wp2_with (go_at_call 35; refine ((HL _).out).mono ?_; rintro e w2 ⟨rfl, hx2⟩; have HX2 := hid hx2; clear hx2)
        go_roundw
        case rel => exact ⟨k + 1, bs, by omega, by omega, by go_num, HE.out.trans HX2.out, by omega, HBf.out, HZ.out, ownsRow_ext HO.out HX2.out⟩
        case measure => simp [intOf]; omega
      | true =>
        rw [hlx] at HL
        have HFx : Hid (Fine x) := ⟨hlx, hok⟩
        clear hlx hok
        go_wp2_with (first
          | (at_builtin; obtain ⟨v', w6, hrun6, ho6, hk6, _⟩ := app_one (P := Try.prog) upd_elem upd_coded (ownsRow_ext HO.out HX2.out) (Nat.le_trans HE.out.size HX2.out.size) x (by omega) (by omega); simp only [UpdI.cells] at hrun6; have HE6 := hid (hk6.toExt (HE.out.trans HX2.out) (fun q hq => (row_block HO.out q hq).1)); have HO6 := hid ho6; have HB6 : Hid (∀ u ∈ bs ++ [x], Fine u) := (fun u hu => (List.mem_append.1 hu).elim (HBf.out u) (fun hu => by rw [List.mem_singleton.1 hu]; exact HFx.out)); clear ho6 hk6; refine wpList_app rfl (.tmp 20) (.tmp 25) _ _ rfl rfl rfl hrun6 ?_)
          | (go_at_call 35; refine ((HL _).out).mono ?_; rintro e w2 ⟨rfl, hx2⟩; have HX2 := hid hx2; have f0 := hx2.cell c0; have f1 := hx2.cell c1; have f2 := hx2.cell c2; have f3 := hx2.cell c3; have f4 := hx2.cell c4; have f5 := hx2.cell c5; have f6 := hx2.cell c6; have f7 := hx2.cell c7; have lf := Nat.lt_of_lt_of_le lbr hx2.size; clear hx2 c0 c1 c2 c3 c4 c5 c6 c7 lbr))
        go_roundw
        case rel => exact ⟨k + 1, bs ++ [x], by omega, by omega, by go_num, HE6.out, by simp; omega, HB6.out, (fun h => by simp at h), HO6.out⟩
        case measure => simp [intOf]; omega
    · have hrow := RowAt.of_row upd_coded hO hz
      have HR := hid hrow
      clear hE h3 hz hO hbf hrow HF HO HZ
      by_cases hh : k < l.length
      · have d0 : decide (k < l.length) = true := decide_eq_true hh
        have d1 : decide ((k : Int) < 25) = false := by simp; omega
        clear hgo
        go_wp2_with fail
        go_ret
        exact ⟨_, rfl, ⟨bs, HR.out, by omega, HBf.out⟩, HE.out⟩
      · have d0 : decide (k < l.length) = false := decide_eq_false hh
        clear hgo
        go_wp2_with fail
        go_ret
        exact ⟨_, rfl, ⟨bs, HR.out, by omega, HBf.out⟩, HE.out⟩
end Go.Proofs.Ytgkdiknmjgpgmaa
