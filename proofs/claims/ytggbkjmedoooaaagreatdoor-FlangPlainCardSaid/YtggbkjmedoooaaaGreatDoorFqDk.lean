/-
  The document's Above and Norm.
-/
import Derived.Test.YtggbkjmedoooaaaGreatDoorQdD
namespace Go.Proofs.YtggbkjmedoooaaaGreatDoor
set_option linter.unusedSimpArgs false
set_option linter.unusedVariables false
open Go.RowKit Go.Sort

theorem abvF_take {f : List ClauseI} {p : ByteArray} {k : Nat} (h : k < f.length) : abvF (f.take (k + 1)) p = if (!decide (f[k].pre = p) && cov f[k].pre p) then abvF (f.take k) p ++ [f[k]] else abvF (f.take k) p := by
  unfold abvF
  rw [List.take_succ_eq_append_getElem h, List.filter_append, List.filter_cons, List.filter_nil]
  split <;> simp
theorem abvF_len (f : List ClauseI) (p : ByteArray) (k : Nat) : (abvF (f.take k) p).length ≤ k := by
  have h1 := List.length_filter_le (fun c : ClauseI => !decide (c.pre = p) && cov c.pre p) (f.take k)
  rw [List.length_take] at h1
  unfold abvF
  omega
set_option maxRecDepth 100000 in
set_option maxHeartbeats 4000000 in
theorem rabove_c (w : World) (v : Value) (l : List ClauseI) (p : ByteArray) (h : Sl w 3 v (l.map ClauseI.cells)) (hl : l.length ≤ 5000) (hp : p.size ≤ 1000) (hs : LightF l) : Calls Tryz.prog 29 #[v, .string p] w (RetQ (RowAt ClauseI.cells 3 (abvF l p)) w) := by
  obtain ⟨A, c, rfl, h1, h2, h3⟩ := sl_get h
  unfold maxLen at h2
  have HSz := hid hs
  clear h hs
  go_enter Tryz.func29, Tryz.ntmps29
  go_wp2_with fail
  go_loopw [5, 6] (fun v i wr => ∃ (k : Nat) (ov : Value), ov = v ∧ k ≤ l.length ∧ i = .int .i64 k ∧ Ext w wr ∧ ((abvF (l.take k) p).length = 0 → v = .slice none 0 0) ∧ wr.ownsRow w.heap.size 42 3 v (abvF (l.take k) p).length ((abvF (l.take k) p).map ClauseI.cells).flatten) (fun _ i _ => l.length - (intOf i).toNat)
  case atStart => exact ⟨0, _, rfl, by omega, rfl, Ext.refl _, (fun _ => rfl), ownsRow_nil _ _ _ _⟩
  case round =>
    obtain ⟨k, v, rfl, hk, rfl, hE, hz, hO⟩ := hrel
    have HE := hid hE
    have HO := hid hO
    have HZ := hid hz
    by_cases hlt : k < l.length
    · obtain ⟨b', o, rfl, lb, hcell⟩ := h3 (by omega)
      have c0 := hE.cell (hcell k hlt 0 _ rfl)
      have c1 := hE.cell (hcell k hlt 1 _ rfl)
      have c2 := hE.cell (hcell k hlt 2 _ rfl)
      rw [Nat.add_zero] at c0
      have lbr := Nat.lt_of_lt_of_le lb hE.size
      have HM := hid (abvF_take (p := p) hlt)
      have hln := abvF_len l p k
      have hsz := HSz.out _ (List.getElem_mem hlt)
      clear hcell h3 hE hz hO
      generalize abvF (l.take k) p = acc at HO HZ HM hln
      generalize l[k] = x at c0 c1 c2 HM hsz
      have HC := fun W => hid (rcovers_c x.pre p W (by unfold maxLen; omega) (by unfold maxLen; omega))
      by_cases he : x.pre = p
      · have d0 : (x.pre.toList == p.toList) = true := by rw [he]; simp
        rw [decide_eq_true he, Bool.not_true, Bool.false_and, if_neg Bool.false_ne_true] at HM
        clear HC he
        go_wp2_with fail
        go_roundw
        case rel => exact ⟨k + 1, _, rfl, by omega, by go_num, HE.out, (by rw [HM.out]; exact HZ.out), by rw [HM.out]; exact HO.out⟩
        case measure => simp [intOf]; omega
      · have d0 : (x.pre.toList == p.toList) = false := by rw [beq_toList]; simp [he]
        rw [decide_eq_false he, Bool.not_false, Bool.true_and] at HM
        clear he
        cases hc : cov x.pre p with
        | false =>
          rw [hc] at HC HM
          rw [if_neg Bool.false_ne_true] at HM
          clear hc
          go_wp2_with (go_at_call 48; refine (HC _).out.mono ?_; rintro e w5 ⟨rfl, rfl⟩)
          go_roundw
          case rel => exact ⟨k + 1, _, rfl, by omega, by go_num, HE.out, (by rw [HM.out]; exact HZ.out), by rw [HM.out]; exact HO.out⟩
          case measure => simp [intOf]; omega
        | true =>
          rw [hc] at HC HM
          rw [if_pos rfl] at HM
          obtain ⟨v', w6, hrun6, ho6, hk6, _⟩ := app_one (P := Tryz.prog) clause_elem clause_coded HO.out HE.out.size x (by omega) (by omega)
          simp only [ClauseI.cells] at hrun6
          have HE6 := hid (hk6.toExt HE.out (fun q hq => (row_block HO.out q hq).1))
          have HO6 := hid ho6
          clear ho6 hk6 hc
          go_wp2_with (first
            | (at_builtin; refine wpList_app rfl (.tmp 29) (.tmp 34) _ _ rfl rfl rfl hrun6 ?_)
            | (go_at_call 48; refine (HC _).out.mono ?_; rintro e w5 ⟨rfl, rfl⟩))
          go_roundw
          case rel => exact ⟨k + 1, _, rfl, by omega, by go_num, HE6.out, (fun h => by rw [HM.out] at h; simp at h), by rw [HM.out]; exact HO6.out⟩
          case measure => simp [intOf]; omega
    · obtain rfl : k = l.length := by omega
      rw [List.take_length] at hO hz
      have hrow := RowAt.of_row clause_coded hO hz
      have HR := hid hrow
      clear hE h3 hz hO hrow HO HZ
      go_wp2_with fail
      go_ret
      exact ⟨_, rfl, HR.out, HE.out⟩
end Go.Proofs.YtggbkjmedoooaaaGreatDoor
