/-
  filter.Sizes; the document's Sizes.
-/
import Derived.Test.YtgkdiknmjgpgmaaGreatDoorFmB
import Derived.Test.YtgkdiknmjgpgmaaGreatDoorSyG
import Derived.Test.YtgkdiknmjgpgmaaGreatDoorStC
namespace Go.Proofs.YtgkdiknmjgpgmaaGreatDoor
set_option linter.unusedSimpArgs false
set_option linter.unusedVariables false
open Go.RowKit Go.Sort

def rngOf (c : ClauseI) : Rng := ⟨c.lo, c.hi⟩
/-- The ranges of the clauses whose prefix covers a path. -/
def selR (f : List ClauseI) (p : ByteArray) : List Rng := (f.filter fun c => cov c.pre p).map rngOf
theorem selR_take {f : List ClauseI} {p : ByteArray} {k : Nat} (h : k < f.length) : selR (f.take (k + 1)) p = if cov f[k].pre p then selR (f.take k) p ++ [rngOf f[k]] else selR (f.take k) p := by
  unfold selR
  rw [List.take_succ_eq_append_getElem h, List.filter_append, List.filter_cons, List.filter_nil]
  split <;> simp
theorem selR_len (f : List ClauseI) (p : ByteArray) (k : Nat) : (selR (f.take k) p).length ≤ k := by
  have h1 := List.length_filter_le (fun c : ClauseI => cov c.pre p) (f.take k)
  rw [List.length_take] at h1
  unfold selR
  rw [List.length_map]
  omega
theorem selR_len0 (f : List ClauseI) (p : ByteArray) : (selR f p).length ≤ f.length := by
  have := selR_len f p f.length
  rwa [List.take_length] at this
set_option maxRecDepth 100000 in
set_option maxHeartbeats 4000000 in
theorem fsizes_c (w : World) (v : Value) (l : List ClauseI) (p : ByteArray) (h : Sl w 3 v (l.map ClauseI.cells)) (hl : l.length ≤ 5000) (hp : p.size ≤ 1000) (hs : LightF l) : Calls Tryz.prog 21 #[v, .string p] w (RetQ (RowAt Rng.cells 2 (nf (sizes (selR l p)))) w) := by
  obtain ⟨A, c, rfl, h1, h2, h3⟩ := sl_get h
  unfold maxLen at h2
  have HSz := hid hs
  clear h hs
  go_enter Tryz.func21, Tryz.ntmps21
  go_wp2_with fail
  go_loopw [5, 10] (fun v i wr => ∃ (k : Nat) (ov : Value), ov = v ∧ k ≤ l.length ∧ i = .int .i64 k ∧ Ext w wr ∧ ((selR (l.take k) p).length = 0 → v = .slice none 0 0) ∧ wr.ownsRow w.heap.size 32 2 v (selR (l.take k) p).length ((selR (l.take k) p).map Rng.cells).flatten) (fun _ i _ => l.length - (intOf i).toNat)
  case atStart => exact ⟨0, _, rfl, by omega, rfl, Ext.refl _, (fun _ => rfl), ownsRow_nil _ _ _ _⟩
  case round =>
    obtain ⟨k, v, rfl, hk, rfl, hE, hz, hO⟩ := hrel
    have HE := hid hE
    have HO := hid hO
    have HZ := hid hz
    by_cases hlt : k < l.length
    · obtain ⟨b', o, rfl, lb, hcell⟩ := h3 (by omega)
      have c0 := hE.cell (hcell k hlt 0 _ rfl)
      have c1 := hE.cell (hcell k hlt 1 _ rfl)
      have c2 := hE.cell (hcell k hlt 2 _ rfl)
      rw [Nat.add_zero] at c0
      have lbr := Nat.lt_of_lt_of_le lb hE.size
      have HM := hid (selR_take (p := p) hlt)
      have hln := selR_len l p k
      have hsz := HSz.out _ (List.getElem_mem hlt)
      clear hcell h3 hE hz hO
      generalize selR (l.take k) p = acc at HO HZ HM hln
      generalize l[k] = x at c0 c1 c2 HM hsz
      have HC := fun W => hid (pcovers_c x.pre p W (by unfold maxLen; omega) (by unfold maxLen; omega))
      have hE1 := Ext.alloc wr (.cells #[.string x.pre, .int .i64 x.lo, .int .i64 x.hi] 34)
      cases hc : cov x.pre p with
      | false =>
        rw [hc] at HC HM
        rw [if_neg Bool.false_ne_true] at HM
        have HE1 := hid hE1
        clear hc hE1
        go_wp2_with (go_at_call 28; refine (HC _).out.mono ?_; rintro e w5 ⟨rfl, rfl⟩)
        go_roundw
        case rel => exact ⟨k + 1, _, rfl, by omega, by go_num, HE.out.trans HE1.out, (by rw [HM.out]; exact HZ.out), by rw [HM.out]; exact ownsRow_ext HO.out HE1.out⟩
        case measure => simp [intOf]; omega
      | true =>
        rw [hc] at HC HM
        rw [if_pos rfl] at HM
        obtain ⟨v', w6, hrun6, ho6, hk6, _⟩ := app_one (P := Tryz.prog) Sz.rng_elem Sz.rng_coded (ownsRow_ext HO.out hE1) (Nat.le_trans HE.out.size hE1.size) (rngOf x) (by omega) (by omega)
        simp only [Rng.cells, rngOf, World.size_alloc] at hrun6
        have HE6 := hid (hk6.toExt (HE.out.trans hE1) (fun q hq => (row_block HO.out q hq).1))
        have HO6 := hid ho6
        clear ho6 hk6 hE1 hc
        go_wp2_with (first
          | (at_builtin; refine wpList_app rfl (.tmp 18) (.tmp 21) _ _ rfl rfl rfl hrun6 ?_)
          | (go_at_call 28; refine (HC _).out.mono ?_; rintro e w5 ⟨rfl, rfl⟩))
        go_roundw
        case rel => exact ⟨k + 1, _, rfl, by omega, by go_num, HE6.out, (fun h => by rw [HM.out] at h; simp at h), by rw [HM.out]; exact HO6.out⟩
        case measure => simp [intOf]; omega
    · obtain rfl : k = l.length := by omega
      rw [List.take_length] at hO hz
      have hrow := RowAt.of_row Sz.rng_coded hO hz
      have hln := selR_len0 l p
      have HN := hid (Sz.norm_c wr v _ hrow.1 (by omega))
      clear hE h3 hz hO hrow HO HZ
      go_wp2_with (go_at_call 38; refine (HN.out).mono ?_; rintro e w5 ⟨v5, rfl, hv5, hx5⟩; have HV5 := hid hv5; have HX5 := hid hx5; clear hv5 hx5)
      go_ret
      exact ⟨_, rfl, HV5.out, HE.out.trans HX5.out⟩
set_option maxRecDepth 100000 in
set_option maxHeartbeats 4000000 in
theorem rsizes_c (w : World) (v : Value) (l : List ClauseI) (p : ByteArray) (h : Sl w 3 v (l.map ClauseI.cells)) (hl : l.length ≤ 5000) (hp : p.size ≤ 1000) (hs : LightF l) : Calls Tryz.prog 25 #[v, .string p] w (RetQ (RowAt Rng.cells 2 (selR l p)) w) := by
  obtain ⟨A, c, rfl, h1, h2, h3⟩ := sl_get h
  unfold maxLen at h2
  have HSz := hid hs
  clear h hs
  go_enter Tryz.func25, Tryz.ntmps25
  go_wp2_with fail
  go_loopw [5, 6] (fun v i wr => ∃ (k : Nat) (ov : Value), ov = v ∧ k ≤ l.length ∧ i = .int .i64 k ∧ Ext w wr ∧ ((selR (l.take k) p).length = 0 → v = .slice none 0 0) ∧ wr.ownsRow w.heap.size 32 2 v (selR (l.take k) p).length ((selR (l.take k) p).map Rng.cells).flatten) (fun _ i _ => l.length - (intOf i).toNat)
  case atStart => exact ⟨0, _, rfl, by omega, rfl, Ext.refl _, (fun _ => rfl), ownsRow_nil _ _ _ _⟩
  case round =>
    obtain ⟨k, v, rfl, hk, rfl, hE, hz, hO⟩ := hrel
    have HE := hid hE
    have HO := hid hO
    have HZ := hid hz
    by_cases hlt : k < l.length
    · obtain ⟨b', o, rfl, lb, hcell⟩ := h3 (by omega)
      have c0 := hE.cell (hcell k hlt 0 _ rfl)
      have c1 := hE.cell (hcell k hlt 1 _ rfl)
      have c2 := hE.cell (hcell k hlt 2 _ rfl)
      rw [Nat.add_zero] at c0
      have lbr := Nat.lt_of_lt_of_le lb hE.size
      have HM := hid (selR_take (p := p) hlt)
      have hln := selR_len l p k
      have hsz := HSz.out _ (List.getElem_mem hlt)
      clear hcell h3 hE hz hO
      generalize selR (l.take k) p = acc at HO HZ HM hln
      generalize l[k] = x at c0 c1 c2 HM hsz
      have HC := fun W => hid (rcovers_c x.pre p W (by unfold maxLen; omega) (by unfold maxLen; omega))
      cases hc : cov x.pre p with
      | false =>
        rw [hc] at HC HM
        rw [if_neg Bool.false_ne_true] at HM
        clear hc
        go_wp2_with (go_at_call 31; refine (HC _).out.mono ?_; rintro e w5 ⟨rfl, rfl⟩)
        go_roundw
        case rel => exact ⟨k + 1, _, rfl, by omega, by go_num, HE.out, (by rw [HM.out]; exact HZ.out), by rw [HM.out]; exact HO.out⟩
        case measure => simp [intOf]; omega
      | true =>
        rw [hc] at HC HM
        rw [if_pos rfl] at HM
        obtain ⟨v', w6, hrun6, ho6, hk6, _⟩ := app_one (P := Tryz.prog) Sz.rng_elem Sz.rng_coded HO.out HE.out.size (rngOf x) (by omega) (by omega)
        simp only [Rng.cells, rngOf] at hrun6
        have HE6 := hid (hk6.toExt HE.out (fun q hq => (row_block HO.out q hq).1))
        have HO6 := hid ho6
        clear ho6 hk6 hc
        go_wp2_with (first
          | (at_builtin; refine wpList_app rfl (.tmp 20) (.tmp 26) _ _ rfl rfl rfl hrun6 ?_)
          | (go_at_call 31; refine (HC _).out.mono ?_; rintro e w5 ⟨rfl, rfl⟩))
        go_roundw
        case rel => exact ⟨k + 1, _, rfl, by omega, by go_num, HE6.out, (fun h => by rw [HM.out] at h; simp at h), by rw [HM.out]; exact HO6.out⟩
        case measure => simp [intOf]; omega
    · obtain rfl : k = l.length := by omega
      rw [List.take_length] at hO hz
      have hrow := RowAt.of_row Sz.rng_coded hO hz
      have HR := hid hrow
      clear hE h3 hz hO hrow HO HZ
      go_wp2_with fail
      go_ret
      exact ⟨_, rfl, HR.out, HE.out⟩
end Go.Proofs.YtgkdiknmjgpgmaaGreatDoor
