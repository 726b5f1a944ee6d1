/-
  lighteragelaw40.few: some listing.
-/
import Derived.Test.YtgkdiknmjgpgmaaFlG
namespace Go.Proofs.Ytgkdiknmjgpgmaa
set_option linter.unusedSimpArgs false
set_option linter.unusedVariables false
open Go.RowKit Go.Sort

theorem listing_nil : Rising [] ∧ Once [] := ⟨fun k h => absurd h (by simp), fun k h => absurd h (by simp)⟩
/-- A listing that is not far too long. -/
def Listing (L : List LeafI) : Prop := (Rising L ∧ Once L) ∧ L.length ≤ 100 ∧ ∀ x ∈ L, Slight x
set_option maxRecDepth 100000 in
set_option maxHeartbeats 4000000 in
theorem few40_e (w : World) (v : Value) (l : List UpdI) (h : Sl w 8 v (l.map UpdI.cells)) (hf : ∀ u ∈ l, okV u.item) : Calls Try.prog 23 #[v] w (RetQ (fun v' w' => ∃ L : List LeafI, RowAt LeafI.cells 5 L v' w' ∧ Listing L) w) := by
  obtain ⟨A, c, rfl, h1, h2, h3⟩ := sl_get h
  have HF := hid hf
  unfold maxLen at h2
  clear h hf
  go_enter Try.func23, Try.ntmps23
  go_wp2_with fail
  go_loopw [3, 4] (fun ou i wr => ∃ (k : Nat) (bs : List UpdI), k ≤ l.length ∧ k ≤ 25 ∧ i = .int .i64 k ∧ Ext w wr ∧ bs.length ≤ k ∧ (∀ u ∈ bs, Fine u) ∧ (bs.length = 0 → ou = .slice none 0 0) ∧ wr.ownsRow w.heap.size 30 8 ou bs.length (bs.map UpdI.cells).flatten) (fun _ i _ => 25 - (intOf i).toNat)
  case atStart => exact ⟨0, [], by omega, by omega, rfl, Ext.refl _, by simp, by simp, (fun _ => rfl), ownsRow_nil _ _ _ _⟩
  case round =>
    obtain ⟨k, bs, hk, hk25, rfl, hE, hbl, hbf, hz, hO⟩ := hrel
    have HE := hid hE
    have HO := hid hO
    have HZ := hid hz
    have HBf := hid hbf
    by_cases hgo : k < l.length ∧ k < 25
    · obtain ⟨hlt, h25⟩ := hgo
      have d0 : decide ((k : Int) < 25) = true := by simp; omega
      obtain ⟨b, o, rfl, lb, hcell⟩ := h3 (by omega)
      have c0 := hE.cell (hcell k hlt 0 _ rfl)
      have c1 := hE.cell (hcell k hlt 1 _ rfl)
      have c2 := hE.cell (hcell k hlt 2 _ rfl)
      have c3 := hE.cell (hcell k hlt 3 _ rfl)
      have c4 := hE.cell (hcell k hlt 4 _ rfl)
      have c5 := hE.cell (hcell k hlt 5 _ rfl)
      have c6 := hE.cell (hcell k hlt 6 _ rfl)
      have c7 := hE.cell (hcell k hlt 7 _ rfl)
      rw [Nat.add_zero] at c0
      have lbr := Nat.lt_of_lt_of_le lb hE.size
      have hok := HF.out _ (List.getElem_mem hlt)
      clear hcell h3 hE hz hO hbf lb HF
      generalize l[k] = x at c0 c1 c2 c3 c4 c5 c6 c7 hok
      have HL := fun W => hid (light_c x W)
      have HR := fun (hh : lightU x = true) W => hid (uright_e x W hh)
      unfold UpdI.val at HL HR
      cases hlx : lightU x with
      | false =>
        rw [hlx] at HL
        clear hlx HR
        go_wp2_with (go_at_call 35; refine ((HL _).out).mono ?_; rintro e w2 ⟨rfl, hx2⟩; have HX2 := hid hx2; clear hx2)
        go_roundw
        case rel => exact ⟨k + 1, bs, by omega, by omega, by go_num, HE.out.trans HX2.out, by omega, HBf.out, HZ.out, ownsRow_ext HO.out HX2.out⟩
        case measure => simp [intOf]; omega
      | true =>
        rw [hlx] at HL
        have HR := HR hlx
        have HFx : Hid (Fine x) := ⟨hlx, hok⟩
        clear hlx hok
        go_wp2_with (first
          | (at_builtin; obtain ⟨v', w6, hrun6, ho6, hk6, _⟩ := app_one (P := Try.prog) upd_elem upd_coded (ownsRow_ext HO.out HX3.out) (Nat.le_trans HE.out.size HX3.out.size) x (by omega) (by omega); simp only [UpdI.cells] at hrun6; have HE6 := hid (hk6.toExt (HE.out.trans HX3.out) (fun q hq => (row_block HO.out q hq).1)); have HO6 := hid ho6; have HB6 : Hid (∀ u ∈ bs ++ [x], Fine u) := (fun u hu => (List.mem_append.1 hu).elim (HBf.out u) (fun hu => by rw [List.mem_singleton.1 hu]; exact HFx.out)); clear ho6 hk6; refine wpList_app rfl (.tmp 28) (.tmp 33) _ _ rfl rfl rfl hrun6 ?_)
          | (go_at_call 11; refine ((HR _).out).mono ?_; rintro e w3 ⟨b3, rfl, hx3⟩; have HX3 := hid (HX2.out.trans hx3); have g0 := hx3.cell f0; have g1 := hx3.cell f1; have g2 := hx3.cell f2; have g3 := hx3.cell f3; have g4 := hx3.cell f4; have g5 := hx3.cell f5; have g6 := hx3.cell f6; have g7 := hx3.cell f7; have lg := Nat.lt_of_lt_of_le lf hx3.size; clear hx3 f0 f1 f2 f3 f4 f5 f6 f7 lf; cases b3)
          | (go_at_call 35; refine ((HL _).out).mono ?_; rintro e w2 ⟨rfl, hx2⟩; have HX2 := hid hx2; have f0 := hx2.cell c0; have f1 := hx2.cell c1; have f2 := hx2.cell c2; have f3 := hx2.cell c3; have f4 := hx2.cell c4; have f5 := hx2.cell c5; have f6 := hx2.cell c6; have f7 := hx2.cell c7; have lf := Nat.lt_of_lt_of_le lbr hx2.size; clear hx2 c0 c1 c2 c3 c4 c5 c6 c7 lbr))
        all_goals first
          | exact ⟨⟨k + 1, bs ++ [x], by omega, by omega, by go_num, HE6.out, by simp; omega, HB6.out, (fun h => by simp at h), HO6.out⟩, by simp [intOf]; omega⟩
          | exact ⟨⟨k + 1, bs, by omega, by omega, by go_num, HE.out.trans HX3.out, by omega, HBf.out, HZ.out, ownsRow_ext HO.out HX3.out⟩, by simp [intOf]; omega⟩
    · have hrow := RowAt.of_row upd_coded hO hz
      have HLv := hid (leaves_e wr _ bs hrow.1 (by omega) hbf)
      have hd : decide (k < l.length) = false ∨ decide ((k : Int) < 25) = false := by
        by_cases hh : k < l.length
        · right; simp; omega
        · left; simp; omega
      clear hE h3 hz hO hbf hrow HF HO HZ HBf
      by_cases hh : k < l.length
      · have d0 : decide (k < l.length) = true := decide_eq_true hh
        have d1 : decide ((k : Int) < 25) = false := by simp; omega
        clear hd hgo
        go_wp2_with (first
          | (go_at_call 30; refine ((HRt _ HR8.out.1).out).mono ?_; rintro e w9 ⟨rfl, hx9⟩; have HX9 := hid (HX8.out.trans hx9); have HR9 := hid (HR8.out.ext hx9); clear hx9 HRt; cases hrb : rightB L)
          | (go_at_call 18; refine (HLv.out).mono ?_; rintro e w8 ⟨v8, rfl, ⟨L, hL, hL1, hL2⟩, hx8⟩; have HX8 := hid hx8; have HR8 := hid hL; have HL2 := hid hL2; obtain ⟨A8, c8, rfl, _⟩ := sl_get hL.1; have HRt := fun W (hs : Sl W 5 (.slice A8 L.length c8) (L.map LeafI.cells)) => hid (right40_c W _ L hs); clear hL hx8 hL2 HLv))
        all_goals go_ret
        · exact ⟨_, rfl, ⟨[], RowAt.nil _, listing_nil, by simp, by simp⟩, HE.out.trans HX9.out⟩
        · exact ⟨_, rfl, ⟨L, HR9.out, rightB_iff.1 hrb, hL1, HL2.out⟩, HE.out.trans HX9.out⟩
      · have d0 : decide (k < l.length) = false := decide_eq_false hh
        clear hd hgo
        go_wp2_with (first
          | (go_at_call 30; refine ((HRt _ HR8.out.1).out).mono ?_; rintro e w9 ⟨rfl, hx9⟩; have HX9 := hid (HX8.out.trans hx9); have HR9 := hid (HR8.out.ext hx9); clear hx9 HRt; cases hrb : rightB L)
          | (go_at_call 18; refine (HLv.out).mono ?_; rintro e w8 ⟨v8, rfl, ⟨L, hL, hL1, hL2⟩, hx8⟩; have HX8 := hid hx8; have HR8 := hid hL; have HL2 := hid hL2; obtain ⟨A8, c8, rfl, _⟩ := sl_get hL.1; have HRt := fun W (hs : Sl W 5 (.slice A8 L.length c8) (L.map LeafI.cells)) => hid (right40_c W _ L hs); clear hL hx8 hL2 HLv))
        all_goals go_ret
        · exact ⟨_, rfl, ⟨[], RowAt.nil _, listing_nil, by simp, by simp⟩, HE.out.trans HX9.out⟩
        · exact ⟨_, rfl, ⟨L, HR9.out, rightB_iff.1 hrb, hL1, HL2.out⟩, HE.out.trans HX9.out⟩
end Go.Proofs.Ytgkdiknmjgpgmaa
