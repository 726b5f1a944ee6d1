/-
  Package index: Drop.
-/
import Derived.Test.YtfoafookodldfaaIdxE
import Derived.Test.YtfoafookodldfaaIdxU
namespace Go.Proofs.Ytfoafookodldfaa
set_option linter.unusedSimpArgs false
set_option linter.unusedVariables false
open Go.RowKit

set_option maxRecDepth 100000 in
set_option maxHeartbeats 4000000 in
theorem drop_no (w : World) (g : Nat) (R : Option Nat) (l : List PairI) (s : ByteArray) (hi : IdxAt w g R l) (hl : l.length < 1000000) (hs : Srt l) (hn : hasK s l = false) :
    Calls Try.prog 18 #[.pointer (some ⟨g, 0, none⟩), .string s] w (fun e w' => e = .returned (.bool false) ∧ PutDone g R w l w') := by
  have HF := hid (find_c w g _ l s hi (by omega) hs)
  rw [hn] at HF
  have Hi := hid hi
  clear hi
  go_enter Try.func18, Try.ntmps18
  go_wp2_with (go_at_call 37; refine (HF.out).mono ?_; rintro e w1 ⟨rfl, hx⟩; have HX := hid hx; clear hx)
  go_ret
  exact ⟨rfl, R, Hi.out.ext HX.out, .inl rfl, Keep.of_ext HX.out⟩

set_option maxRecDepth 100000 in
set_option maxHeartbeats 4000000 in
theorem drop_mid (w : World) (g b : Nat) (l : List PairI) (s : ByteArray) (hi : IdxAt w g (some b) l) (hl : l.length < 1000000) (hs : Srt l) (hn : hasK s l = true) (hlt : rk s l + 1 < l.length) :
    Calls Try.prog 18 #[.pointer (some ⟨g, 0, none⟩), .string s] w (fun e w' => e = .returned (.bool true) ∧ PutDone g (some b) w (l.take (rk s l) ++ l.drop (rk s l + 1)) w') := by
  have HF := hid (find_c w g _ l s hi (by omega) hs)
  rw [hn] at HF
  generalize rk s l = r at HF hlt ⊢
  have hrl : r ≤ l.length := by omega
  have Hi := hid hi
  obtain ⟨c, h1, h2, h3, h4, h5⟩ := hi.ex
  obtain ⟨hne, cs, hb, hcs, hcell⟩ := h5 b rfl
  obtain ⟨i0, hi0, hz0, hz1, hz2⟩ := info_parts pair_info
  have cg : w.cell? ⟨g, 0, none⟩ = some (.slice (some ⟨b, 0, none⟩) l.length c) := h1.cell rfl
  have fg := h1.frozen 0
  have lg := h1.lt
  have lb := hb.lt
  have HC : Hid (∀ j u, (flatP l)[j]? = some u → w.cell? ⟨b, j, none⟩ = some u) := flat_cells fun k hk => ⟨hb.cell (hcell k hk).1, hb.cell (hcell k hk).2⟩
  clear h1 h4 h5 hb hcs hcell hi hs
  unfold maxLen at h3
  go_enter Try.func18, Try.ntmps18
  go_wp2_with (go_at_call 37; refine (HF.out).mono ?_; rintro e w1 ⟨rfl, hx⟩; have cg1 := hx.cell cg; have HX := hid hx; have lg1 := Nat.lt_of_lt_of_le lg hx.size; have lb1 := Nat.lt_of_lt_of_le lb hx.size; have fg1 := (hx.ruleF g 0 none lg).trans fg; clear hx)
  have HS : Hid (∀ W, Ext w1 W → Src Try.prog 2 72 (.slice (some ⟨b, (r + 1) * 2, none⟩) (l.length - (r + 1)) (c - (r + 1))) (l.length - (r + 1)) (flatP (l.drop (r + 1))) W) := fun W hW => by

    refine Src.ofSlice W Try.underlying72 _ _ _ _ (by rw [flatP_length, List.length_drop]) (fun j u hu => ?_) (flatP_one _)
    rw [Addr.add_lit]
    refine hW.cell (HX.out.cell (HC.out ((r + 1) * 2 + j) u ?_))
    rw [flat_drop, List.getElem?_drop] at hu
    exact hu
  have hr0 : (0 : Int) ≤ (r : Int) := Int.natCast_nonneg _
  refine wp_region_last (Rel.firm w1.heap.size 0 (flatP (l.take r) ++ flatP (l.drop (r + 1)))) (pre := ?pre) (z := ?z) ?hpre ?hz (firm_steady w1 _ _) (by kernel_rfl) (by kernel_rfl) (by kernel_rfl) (by kernel_rfl) ?_
  case hpre => (simp only [List.dropLast_cons_cons, List.dropLast_singleton]; first | done | exact rfl)
  case hz => (simp only [List.getLast?_cons_cons, List.getLast?_singleton]; first | done | exact rfl)
  repeat (first
    | (refine AWq.val rfl rfl rfl rfl (fun K hK => ?_); go_big_quiet_op; refine hK _ ?_; clear hK K)
    | (refine AWq.skip rfl rfl rfl ?_; simp only [Act.put, List.setIfInBounds_toArray, List.set_cons_succ, List.set_cons_zero])
    | (refine AWq.opQ (Own w1.heap.size 76 2 (r + (l.length - (r + 1))) (flatP (l.take r) ++ flatP (l.drop (r + 1)))) (fun v => Own.whole v) rfl (fun a wc hc hl => ⟨rfl, ?_⟩) ?_; (· (have e21 : a.tmps.getD 21 undef = .slice (some ⟨b, 0, none⟩) r r := hl 21 (of_decide_eq_true (by kernel_rfl)); have e28 : a.tmps.getD 28 undef = .slice (some ⟨b, (r + 1) * 2, none⟩) (l.length - (r + 1)) (c - (r + 1)) := hl 28 (of_decide_eq_true (by kernel_rfl)); obtain ⟨v', w', hr', hO, hE⟩ := append_grows (P := Try.prog) (ty := 72) Try.underlying72 hi0 hz0 hz1 hz2 rfl (hc.size) (base := some ⟨b, 0, none⟩) (n := r) (c := r) (olds := flatP (l.take r)) (by rw [flatP_length, List.length_take, Nat.min_eq_left hrl]) (fun b' hb' j u hu => by { injection hb' with hb'; subst hb'; rw [Addr.add_lit, Nat.zero_add]; refine hc.cell (HX.out.cell (HC.out j u ?_)); rw [flat_take, List.getElem?_take] at hu; split at hu; exact hu; cases hu }) (fun h => by cases h) (HS.out wc hc) (by omega) (by unfold maxLen; omega) (by omega); exact gives_append (s := .tmp 21) (x := .tmp 28) rfl e21 e28 hr' ⟨hO, Firm.ofExt _ _ hE⟩))))
  refine AWq.last rfl rfl rfl (fun w2 h2 => ?_)
  simp only [closeAny, Act.put, List.setIfInBounds_toArray, List.set_cons_succ, List.set_cons_zero]
  intro v hO
  have HO := hid hO
  have H2 := hid h2
  obtain ⟨g2, cap, rfl, _, _, _⟩ := hO.cells
  have cg2 := h2.cell cg1
  have fg2 := (h2.ruleF g 0 none lg1).trans fg1
  clear hO h2
  have e1 : Hid ((l.take r ++ l.drop (r + 1)).length = r + (l.length - (r + 1))) := by unfold Hid; simp; omega
  have e2 : Hid (flatP (l.take r ++ l.drop (r + 1)) = flatP (l.take r) ++ flatP (l.drop (r + 1))) := flatP_append _ _
  go_wp2
  all_goals go_ret
  all_goals exact ⟨rfl, own_idx Hi.out HX.out (by rw [e1.out]; omega) (by rw [e1.out, e2.out]; exact HO.out) H2.out⟩

set_option maxRecDepth 100000 in
set_option maxHeartbeats 4000000 in
theorem drop_last (w : World) (g b : Nat) (l : List PairI) (s : ByteArray) (hi : IdxAt w g (some b) l) (hl : l.length < 1000000) (hs : Srt l) (hn : hasK s l = true) (r : Nat) (hrk : rk s l = r) (hlt : l.length = r + 1) :
    Calls Try.prog 18 #[.pointer (some ⟨g, 0, none⟩), .string s] w (fun e w' => e = .returned (.bool true) ∧ PutDone g (some b) w (l.take r) w') := by
  have HF := hid (find_c w g _ l s hi (by omega) hs)
  rw [hn, hrk] at HF
  have Hi := hid hi
  obtain ⟨c, h1, h2, h3, h4, h5⟩ := hi.ex
  obtain ⟨hne, cs, hb, hcs, hcell⟩ := h5 b rfl
  obtain ⟨i0, hi0, hz0, hz1, hz2⟩ := info_parts pair_info
  have cg : w.cell? ⟨g, 0, none⟩ = some (.slice (some ⟨b, 0, none⟩) l.length c) := h1.cell rfl
  have fg := h1.frozen 0
  have lg := h1.lt
  have lb := hb.lt
  have H1 := hid h1
  have Hb := hid hb
  have Hcell := hid hcell
  rw [hlt] at cg
  clear h1 h4 h5 hb hcell hi hs hrk
  unfold maxLen at h3
  have hr0 : (0 : Int) ≤ (r : Int) := Int.natCast_nonneg _
  have hr1 : r < 1000000 := by omega
  have hr2 : r + 1 ≤ c := by omega
  have HL := hid hlt
  clear hlt hl h2
  go_enter Try.func18, Try.ntmps18
  go_wp2_with (go_at_call 37; refine (HF.out).mono ?_; rintro e w1 ⟨rfl, hx⟩; have cg1 := hx.cell cg; have HX := hid hx; have lg1 := Nat.lt_of_lt_of_le lg hx.size; have lb1 := Nat.lt_of_lt_of_le lb hx.size; have fg1 := (hx.ruleF g 0 none lg).trans fg; clear hx)
  refine wp_region_last (Rel.firm w1.heap.size 0 []) (pre := ?pre) (z := ?z) ?hpre ?hz (firm_steady w1 _ _) (by kernel_rfl) (by kernel_rfl) (by kernel_rfl) (by kernel_rfl) ?_
  case hpre => (simp only [List.dropLast_cons_cons, List.dropLast_singleton]; first | done | exact rfl)
  case hz => (simp only [List.getLast?_cons_cons, List.getLast?_singleton]; first | done | exact rfl)
  repeat (first
    | (refine AWq.val rfl rfl rfl rfl (fun K hK => ?_); go_big_quiet_op; refine hK _ ?_; clear hK K)
    | (refine AWq.skip rfl rfl rfl ?_; simp only [Act.put, List.setIfInBounds_toArray, List.set_cons_succ, List.set_cons_zero])
    | (refine AWq.opQ (fun v _ => v = .slice (some ⟨b, 0, none⟩) r r) (fun _ _ _ _ h => h) rfl (fun a wc hc hl => ⟨rfl, ?_⟩) ?_; (· (have e21 : a.tmps.getD 21 undef = .slice (some ⟨b, 0, none⟩) r r := hl 21 (of_decide_eq_true (by kernel_rfl)); have e28 : a.tmps.getD 28 undef = .slice (if c = r + 1 then some ⟨b, 0, none⟩ else some ⟨b, (r + 1) * 2, none⟩) 0 (c - (r + 1)) := hl 28 (of_decide_eq_true (by kernel_rfl)); have hS : Src Try.prog i0.size 72 (.slice (if c = r + 1 then some ⟨b, 0, none⟩ else some ⟨b, (r + 1) * 2, none⟩) 0 (c - (r + 1))) 0 [] wc := (by split <;> exact Src.ofSlice wc Try.underlying72 _ _ _ _ (by simp) (by simp) (by simp)); exact gives_append (s := .tmp 21) (x := .tmp 28) rfl e21 e28 (run_append_nothing (P := Try.prog) wc _ _ _ _ i0 Try.underlying72 hi0 (some ⟨b, 0, none⟩) r r (Nat.le_refl _) _ hS) ⟨rfl, Firm.refl _ _ _ _⟩))))
  refine AWq.last rfl rfl rfl (fun w2 h2 => ?_)
  simp only [closeAny, Act.put, List.setIfInBounds_toArray, List.set_cons_succ, List.set_cons_zero]
  intro v hO
  subst hO
  have H2 := hid h2
  have cg2 := h2.cell cg1
  have fg2 := (h2.ruleF g 0 none lg1).trans fg1
  clear h2
  go_wp2
  all_goals go_ret
  all_goals
    refine ⟨rfl, some b, ⟨r, ?_, ?_, ?_, (fun h => by cases h), fun b' hb' => ?_⟩, .inl rfl, ((Keep.of_ext HX.out).ext H2.out).setCell (.inl (.inl rfl)) _⟩
    · have e : (l.take r).length = r := by rw [List.length_take, HL.out]; omega
      rw [e]
      exact ((H1.out.ext HX.out).ext H2.out).set 0 _
    · rw [List.length_take]; exact Nat.min_le_left _ _
    · unfold maxLen; omega
    · injection hb' with hb'
      subst hb'
      refine ⟨hne, cs, ((Hb.out.ext HX.out).ext H2.out).far (p := ⟨g, 0, none⟩) hne _, by omega, fun k hk => ?_⟩
      rw [List.length_take] at hk
      rw [List.getElem_take]
      exact Hcell.out k (by omega)

theorem drop_c (w : World) (g : Nat) (R : Option Nat) (l : List PairI) (s : ByteArray) (hi : IdxAt w g R l) (hl : l.length < 1000000) (hs : Srt l) :
    Calls Try.prog 18 #[.pointer (some ⟨g, 0, none⟩), .string s] w (fun e w' => e = .returned (.bool (hasK s l)) ∧ PutDone g R w (dropK s l) w') := by
  unfold dropK
  cases hn : hasK s l with
  | false => exact drop_no w g R l s hi hl hs hn
  | true =>
    obtain ⟨hr, hname⟩ := hasK_true hn
    cases R with
    | none =>
      obtain ⟨_, _, _, _, h4, _⟩ := hi.ex
      obtain ⟨rfl, _⟩ := h4 rfl
      simp at hr
    | some b =>
      rw [if_pos rfl]
      by_cases hlt : rk s l + 1 < l.length
      · exact drop_mid w g b l s hi hl hs hn hlt
      · rw [List.drop_of_length_le (by omega), List.append_nil]
        exact drop_last w g b l s hi hl hs hn _ rfl (by omega)
end Go.Proofs.Ytfoafookodldfaa
