/-
  The document's View of nothing.
-/
import Derived.Test.YtgkdiknmjgpgmaaFlE
namespace Go.Proofs.Ytgkdiknmjgpgmaa
set_option linter.unusedSimpArgs false
set_option linter.unusedVariables false
open Go.RowKit Go.Sort

theorem itemsK_take {l : List UpdI} {k : Nat} (h : k < l.length) : itemsK (l.take (k + 1)) = insL Ver.lt l[k].item (itemsK (l.take k)) := by
  unfold itemsK
  rw [List.take_succ_eq_append_getElem h, List.map_append]
  exact setL_snoc _ _
set_option maxRecDepth 100000 in
set_option maxHeartbeats 4000000 in
theorem view0_c (w : World) (v : Value) (l : List UpdI) (B : Option Addr) (d : Nat) (h : Sl w 8 v (l.map UpdI.cells)) (hl : l.length ≤ 1000) : Calls Try.prog 48 #[v, .slice B 0 d] w (Ret (.slice none 0 0) w) := by
  have HB := fun W (hW : Ext w W) it => hid (rbest_c W v l it (h.ext hW))
  obtain ⟨A, c, rfl, h1, h2, h3⟩ := sl_get h
  have HC := hid h3
  unfold maxLen at h2
  clear h
  go_enter Try.func48, Try.ntmps48
  go_wp2_with fail
  go_loopw [5, 6] (fun v i wr => ∃ (k : Nat) (ov : Value), k ≤ l.length ∧ i = .int .i64 k ∧ ov = v ∧ Ext w wr ∧ RowAt Ver.cells 2 (itemsK (l.take k)) ov wr) (fun _ i _ => l.length - (intOf i).toNat)
  case atStart => exact ⟨0, _, by omega, rfl, rfl, Ext.refl _, RowAt.nil _⟩
  case round =>
    obtain ⟨k, v, hk, rfl, rfl, hE, hR⟩ := hrel
    have HE := hid hE
    by_cases hlt : k < l.length
    · obtain ⟨b', o, rfl, lb, hcell⟩ := h3 (by omega)
      have c0 := hE.cell (hcell k hlt 0 _ rfl)
      have c1 := hE.cell (hcell k hlt 1 _ rfl)
      rw [Nat.add_zero] at c0
      have lbr := Nat.lt_of_lt_of_le lb hE.size
      have hle := itemsK_len (l.take k)
      rw [List.length_take] at hle
      have HP := hid (rput_c wr v _ l[k].item hR (by omega))
      rw [← itemsK_take hlt] at HP
      clear hE hcell h3 hR hle
      generalize l[k] = z at c0 c1 HP
      unfold Ver.val at HP
      go_wp2_with (go_at_call 31; refine (HP.out).mono ?_; rintro e w3 ⟨v3, rfl, hv3, hx3⟩; have HV3 := hid hv3; have HX3 := hid hx3; clear hv3 hx3)
      exact ⟨⟨k + 1, _, by omega, by go_num, rfl, HE.out.trans HX3.out, HV3.out⟩, by simp [intOf]; omega⟩
    · obtain rfl : k = l.length := by omega
      rw [List.take_length] at hR
      have HIn : Hid (∀ it ∈ itemsK l, ∃ u ∈ l, u.item = it) := fun it hit => (mem_itemsK l it).1 hit
      have hle := itemsK_len l
      generalize itemsK l = its at hR HIn hle
      obtain ⟨A2, c2, rfl, p1, p2, p3⟩ := sl_get hR.1
      unfold maxLen at p2
      clear hE h3 hR
      go_wp2_with fail
      go_loopw [7, 8] (fun ou i WI => ∃ k : Nat, k ≤ its.length ∧ i = .int .i64 k ∧ ou = .slice none 0 0 ∧ Ext wr WI) (fun _ i _ => its.length - (intOf i).toNat)
      case atStart => exact ⟨0, by omega, rfl, rfl, Ext.refl _⟩
      case round =>
        obtain ⟨k, hk, rfl, rfl, hE⟩ := hrel
        have HE2 := hid (HE.out.trans hE)
        have HE3 := hid hE
        by_cases hlt : k < its.length
        · obtain ⟨b', o, rfl, lb, hcell⟩ := p3 (by omega)
          have c0 := hE.cell (hcell k hlt 0 _ rfl)
          have c1 := hE.cell (hcell k hlt 1 _ rfl)
          rw [Nat.add_zero] at c0
          have lbr := Nat.lt_of_lt_of_le lb hE.size
          have HB1 := HB wr HE2.out its[k]
          have HIn1 := hid (HIn.out its[k] (List.getElem_mem hlt))
          clear hcell p3 hE HB HIn
          generalize its[k] = it at c0 c1 HB1 HIn1
          unfold Ver.val at HB1
          obtain ⟨m0, hm0⟩ : ∃ m0 : Nat, m0 = 0 := ⟨0, rfl⟩
          clear hm0 m0
          go_wp2_with (go_at_call 13; refine (HB1.out).mono ?_; rintro e w3 ⟨v3, rfl, ⟨z, rfl, hz⟩, hx3⟩; obtain ⟨m, x, hm, rfl, hbx⟩ := bestAt_in hz HIn1.out; obtain ⟨hml, hmx⟩ := List.getElem?_eq_some_iff.1 hm; obtain ⟨ba, oa, rfl, lba, hca⟩ := HC.out (by omega); have hw3 := HE2.out.trans hx3; have e0 := hw3.cell (hca m hml 0 _ rfl); have e1 := hw3.cell (hca m hml 1 _ rfl); have e2 := hw3.cell (hca m hml 2 _ rfl); have e3 := hw3.cell (hca m hml 3 _ rfl); have e4 := hw3.cell (hca m hml 4 _ rfl); have e5 := hw3.cell (hca m hml 5 _ rfl); have e6 := hw3.cell (hca m hml 6 _ rfl); have e7 := hw3.cell (hca m hml 7 _ rfl); rw [hmx] at e0 e1 e2 e3 e4 e5 e6 e7; rw [Nat.add_zero] at e0; have lba3 := Nat.lt_of_lt_of_le lba hw3.size; have HX3 := hid hx3; clear hz hm hbx hmx hca hw3 hx3 lba HC HIn1)
          have HM := fun W => hid (rmatch16_0 W B d x)
          unfold UpdI.val at HM
          go_wp2_with (go_at_call 68; refine ((HM _).out).mono ?_; rintro e w4 ⟨rfl, hx4⟩; have HX4 := hid hx4; clear hx4)
          go_roundw
          case rel => exact ⟨k + 1, by omega, by go_num, rfl, HE3.out.trans (HX3.out.trans ((Ext.alloc _ _).trans HX4.out))⟩
          case measure => simp [intOf]; omega
        · obtain rfl : k = its.length := by omega
          clear hE p3
          go_wp2_with fail
          go_ret
          exact ⟨rfl, HE2.out⟩
end Go.Proofs.Ytgkdiknmjgpgmaa
