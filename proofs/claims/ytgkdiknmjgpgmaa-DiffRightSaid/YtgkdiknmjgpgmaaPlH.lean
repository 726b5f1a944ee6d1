/-
  lighteragelaw40.awake.
-/
import Derived.Test.YtgkdiknmjgpgmaaPlG
namespace Go.Proofs.Ytgkdiknmjgpgmaa
set_option linter.unusedSimpArgs false
set_option linter.unusedVariables false
open Go.RowKit

theorem lit_any {α : Type} {code : α → List Value} {sz : Nat} (hc : Coded code sz) {w : World} {n : Nat} (e : TypeId) (l : List α) (cs : Array Value) (hcs : cs = ((l.map code).flatten).toArray) (hn : l.length = n) (hm : n ≤ maxLen) : Sl (w.alloc (.cells cs e)) sz (.slice (some ⟨w.heap.size, 0, none⟩) n n) (l.map code) :=
  Sl.of_flat (Blk.new w e cs) ⟨[], by rw [hcs]; simp⟩ (hc.sizes l) (by simpa using hn) (Nat.le_refl _) hm
theorem turn_lit4 {w : World} {v : Value} (h : Sl w 4 v (([⟨4, ⟨#[98]⟩, ⟨#[97]⟩, ⟨#[]⟩⟩] : List TurnI).map TurnI.cells)) : ∃ b o c, v = .slice (some ⟨b, o, none⟩) 1 c ∧ 1 ≤ c ∧ c ≤ 2 ^ 63 - 1 ∧ b < w.heap.size ∧ w.cell? ⟨b, o, none⟩ = some (.int .i64 4) ∧ w.cell? ⟨b, o + 1, none⟩ = some (.string ⟨#[98]⟩) ∧ w.cell? ⟨b, o + 2, none⟩ = some (.string ⟨#[97]⟩) ∧ w.cell? ⟨b, o + 3, none⟩ = some (.string ⟨#[]⟩) := by
  obtain ⟨A, c, rfl, g1, g2, g3⟩ := sl_get h
  obtain ⟨b, o, rfl, lb, hc⟩ := g3 (by simp)
  have h1 := hc 0 (by simp) 0 _ rfl
  have h2 := hc 0 (by simp) 1 _ rfl
  have h3 := hc 0 (by simp) 2 _ rfl
  have h4 := hc 0 (by simp) 3 _ rfl
  simp only [Nat.zero_mul, Nat.add_zero] at h1 h2 h3 h4
  exact ⟨b, o, c, rfl, g1, g2, lb, h1, h2, h3, h4⟩
set_option maxRecDepth 100000 in
set_option maxHeartbeats 4000000 in
theorem awake40_c (w : World) : Calls Try.prog 24 #[] w (Ret (.bool true) w) := by
  have hA : Sl (w.alloc (.cells #[.string ⟨#[97]⟩, .string ⟨#[97]⟩, .int .i64 1, .int .i64 1, .string ⟨#[49]⟩] 35)) 5 (.slice (some ⟨w.heap.size, 0, none⟩) 1 1) ([litA].map LeafI.cells) := lit_any leaf_coded _ _ _ rfl rfl (by unfold maxLen; simp)
  have hB : Sl ((w.alloc (.cells #[.string ⟨#[97]⟩, .string ⟨#[97]⟩, .int .i64 1, .int .i64 1, .string ⟨#[49]⟩] 35)).alloc (.cells #[.string ⟨#[98]⟩, .string ⟨#[98]⟩, .int .i64 1, .int .i64 1, .string ⟨#[49]⟩] 35)) 5 (.slice (some ⟨w.heap.size + 1, 0, none⟩) 1 1) ([litB].map LeafI.cells) := by
    have := lit_any (w := w.alloc (.cells #[.string ⟨#[97]⟩, .string ⟨#[97]⟩, .int .i64 1, .int .i64 1, .string ⟨#[49]⟩] 35)) leaf_coded 35 [litB] #[.string ⟨#[98]⟩, .string ⟨#[98]⟩, .int .i64 1, .int .i64 1, .string ⟨#[49]⟩] rfl (n := 1) rfl (by unfold maxLen; omega)
    rwa [World.size_alloc] at this
  have sA : Slight litA := ⟨by decide, by decide, by decide⟩
  have sB : Slight litB := ⟨by decide, by decide, by decide⟩
  have hA2 := hA.ext (Ext.alloc _ (.cells #[.string ⟨#[98]⟩, .string ⟨#[98]⟩, .int .i64 1, .int .i64 1, .string ⟨#[49]⟩] 35))
  have HT := hid (dTurns_c _ _ _ [litA] [litB] hA2 hB (by simp) (by simp))
  rw [turns_lit] at HT
  have HP := fun (W : World) (u v : Value) (hu : Sl W 5 u ([litA].map LeafI.cells)) (hv : Sl W 4 v (([⟨4, ⟨#[98]⟩, ⟨#[97]⟩, ⟨#[]⟩⟩] : List TurnI).map TurnI.cells)) => hid (plays_c W u v [litA] [litB] (listing_one _ sA) (listing_one _ sB) hu (by rw [turns_lit]; exact hv))
  rw [show namesK [litB] = [⟨#[98, 61, 49]⟩] from rfl] at HP
  have HX := fun (W : World) (v : Value) (hv : Sl W 1 v ([⟨#[98, 61, 49]⟩].map strC)) => hid (texts_c (W.alloc (.cells #[.string ⟨#[98, 61, 49]⟩] 9)) v _ [⟨#[98, 61, 49]⟩] [⟨#[98, 61, 49]⟩] (hv.ext (Ext.alloc _ _)) (lit_any str_coded _ _ _ rfl rfl (by unfold maxLen; simp)))
  simp only [decide_true] at HX
  have HR := fun (W : World) (u : Value) (hu : Sl W 5 u ([litA].map LeafI.cells)) => hid (dright_c W u [litA] hu (by simp))
  rw [rightB_of (listing_one _ sA).1] at HR
  have HA := hid hA2
  clear hA hB hA2 sA sB
  go_enter Try.func24, Try.ntmps24
  go_wp2_with (first
    | (go_at_call 29; refine (HR _ _ (HA.out.ext HX3.out)).out.mono ?_; rintro e w4 ⟨rfl, hx4⟩; have HX4 := hid (HX3.out.trans hx4); clear hx4)
    | (go_at_call 25; refine (HX _ _ HV2.out).out.mono ?_; rintro e w3 ⟨rfl, hx3⟩; have HX3 := hid ((HX2.out.alloc' _).trans hx3); clear hx3)
    | (go_at_call 26; refine (HP _ _ _ (HA.out.ext HX1.out) HV1.out).out.mono ?_; rintro e w2 ⟨v2, rfl, hv2, hx2⟩; have HV2 := hid hv2.1; have HX2 := hid (HX1.out.trans hx2); clear hv2 hx2)
    | (go_at_call 27; refine (HT.out).mono ?_; rintro e w1 ⟨v1, rfl, hv1, hx1⟩; have HV1 := hid hv1.1; have HX1 := hid hx1; obtain ⟨b, o, c3, rfl, g1, g2, lb, c0, c1, c2, c3'⟩ := turn_lit4 hv1.1; clear hv1 hx1))
  go_ret
  exact ⟨rfl, ((Ext.alloc _ _).alloc' _).trans HX4.out⟩
end Go.Proofs.Ytgkdiknmjgpgmaa
