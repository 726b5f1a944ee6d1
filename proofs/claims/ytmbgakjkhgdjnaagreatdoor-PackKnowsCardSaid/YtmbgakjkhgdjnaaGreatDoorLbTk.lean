/-
  Whether all was read (leb.In.End); a version is read (pack.getVer, pack.read).
-/
import Derived.Test.YtmbgakjkhgdjnaaGreatDoorQaB
namespace Go.Proofs.YtmbgakjkhgdjnaaGreatDoor
set_option linter.unusedSimpArgs false
set_option linter.unusedVariables false
open Go.RowKit

def endK (s : ByteArray) (e : Int) : Int := if e = 0 then (if s.size = 0 then 0 else 6) else e
set_option maxRecDepth 100000 in
set_option maxHeartbeats 1000000 in
theorem end_c (w : World) (q : Nat) (s : ByteArray) (e : Int) (h : InAt w q s e) : Calls Tryz.prog 108 #[.pointer (some ⟨q, 0, none⟩)] w (Ret (.int .i64 (endK s e)) w) := by
  have HE := fun W (hW : Ext w W) => hid (err_c W q s e (h.ext hW))
  have HL := fun W (hW : Ext w W) => hid (left_c W q s e (h.ext hW))
  clear h
  unfold endK
  by_cases h0 : e = 0
  · subst h0
    rw [if_pos rfl]
    have hl : leftK s 0 = (s.size : Int) := if_pos rfl
    rw [hl] at HL
    clear hl
    by_cases hz : s.size = 0
    · rw [if_pos hz]
      rw [hz] at HL
      clear hz
      go_enter Tryz.func108, Tryz.ntmps108
      go_wp2_with fail
      refine ((HE _ (Ext.refl _)).out).mono ?_
      rintro e w1 ⟨rfl, x1⟩
      have X1 := hid x1
      clear x1 HE
      go_wp2_with fail
      refine ((HL _ X1.out).out).mono ?_
      rintro e w2 ⟨rfl, x2⟩
      have X2 := hid (X1.out.trans x2)
      clear x2 HL
      go_wp2_with fail
      go_ret
      exact ⟨rfl, X2.out⟩
    · rw [if_neg hz]
      have dz : decide ((0 : Int) < s.size) = true := decide_eq_true (by omega)
      have dz' : decide (0 < s.size) = true := decide_eq_true (by omega)
      clear hz
      go_enter Tryz.func108, Tryz.ntmps108
      go_wp2_with fail
      refine ((HE _ (Ext.refl _)).out).mono ?_
      rintro e w1 ⟨rfl, x1⟩
      have X1 := hid x1
      clear x1 HE
      go_wp2_with fail
      refine ((HL _ X1.out).out).mono ?_
      rintro e w2 ⟨rfl, x2⟩
      have X2 := hid (X1.out.trans x2)
      clear x2 HL
      go_wp2_with fail
      go_ret
      exact ⟨rfl, X2.out⟩
  · rw [if_neg h0]
    have d0 : (e != 0) = true := by simp [h0]
    clear h0 HL
    go_enter Tryz.func108, Tryz.ntmps108
    go_wp2_with fail
    refine ((HE _ (Ext.refl _)).out).mono ?_
    rintro e w1 ⟨rfl, x1⟩
    have X1 := hid x1
    clear x1 HE
    go_wp2_with fail
    go_ret
    exact ⟨rfl, X1.out⟩
/-- A version is read. -/
def ReadV (s : ByteArray) (e : Int) (z1 z2 : Nat) (s' : ByteArray) (e' : Int) : Prop :=
  ∀ n1 n2 rest, e = 0 → n1 < 9223372036854775808 → n2 < 9223372036854775808 → s.data.toList = lebL n1 ++ (lebL n2 ++ rest) → z1 = n1 ∧ z2 = n2 ∧ s'.data.toList = rest ∧ e' = 0
set_option maxRecDepth 100000 in
set_option maxHeartbeats 2000000 in
theorem getVer_c (w : World) (q : Nat) (s : ByteArray) (e : Int) (h : InAt w q s e) (hs : s.size ≤ 1000000) : Calls Tryz.prog 112 #[.pointer (some ⟨q, 0, none⟩)] w (fun en w' => ∃ (z1 z2 : Nat) (s' : ByteArray) (e' : Int), en = .returned (.agg #[.int .i64 z1, .int .i64 z2]) ∧ z1 < 9223372036854775808 ∧ z2 < 9223372036854775808 ∧ Keep (fun g => g = q) w w' ∧ InAt w' q s' e' ∧ s'.size ≤ s.size ∧ ReadV s e z1 z2 s' e') := by
  have HN := fun W (s' : ByteArray) (e' : Int) (h' : InAt W q s' e') (hs' : s'.size ≤ 1000000) => hid (n_c W q s' e' h' hs')
  have HB := hid (Blk.new w 60 #[.int .i64 0, .int .i64 0])
  have HK := hid (Keep.of_ext (S := fun g => g = q) (Ext.alloc w (.cells #[.int .i64 0, .int .i64 0] 60)))
  have H := hid (h.ext (Ext.alloc w (.cells #[.int .i64 0, .int .i64 0] 60)))
  have hq : ¬ w.heap.size = q := by have := h.lt; omega
  have HQ := hid hq
  clear h hq
  go_enter Tryz.func112, Tryz.ntmps112
  go_wp2_with fail
  generalize w.alloc (.cells #[.int .i64 0, .int .i64 0] 60) = w0 at H HB HK ⊢
  have HG : Hid (∃ g, g = w.heap.size ∧ w.heap.size ≤ g) := ⟨_, rfl, Nat.le_refl _⟩
  obtain ⟨g, hg, hG⟩ := HG.out
  have HG := hid hG
  clear hG
  rw [← hg] at HB HQ ⊢
  clear hg
  refine ((HN _ _ _ H.out hs).out).mono ?_
  rintro en w1 ⟨z1, s1, e1, rfl, hz1, k1, h1, hs1, r1⟩
  have HK1 := hid (HK.out.trans k1)
  have HI1 := hid h1
  have HB1 := hid (HB.out.keep k1 HQ.out)
  have R1 := hid r1
  have Z1 := hid hz1
  clear k1 h1 r1 HB H HK hz1
  go_wp2_with fail
  refine ((HN _ _ _ HI1.out (by omega)).out).mono ?_
  rintro en w2 ⟨z2, s2, e2, rfl, hz2, k2, h2, hs2, r2⟩
  have HK2 := hid (HK1.out.trans k2)
  have HI2 := hid h2
  have HB2 := hid (HB1.out.keep k2 HQ.out)
  have RV : Hid (ReadV s e z1 z2 s2 e2) := fun n1 n2 rest a0 a1 a2 a3 => by
    obtain ⟨b1, b2, b3⟩ := R1.out n1 _ a0 a1 a3
    obtain ⟨c1, c2, c3⟩ := r2 n2 _ b3 a2 b2
    exact ⟨b1, c1, c2, c3⟩
  have b0 := HB2.out.lt
  have a0 := HB2.out.cell (i := 0) (v := .int .i64 0) rfl
  have a1 := HB2.out.cell (i := 1) (v := .int .i64 0) rfl
  have z0 := HB2.out.frozen 0
  have z1' := HB2.out.frozen 1
  have Z2 := hid hz2
  have hsz : s2.size ≤ s.size := by omega
  have HSz := hid hsz
  clear k2 h2 r2 R1 HB1 HI1 HK1 hz2 hs hs1 hs2 hsz HN
  go_wp2_with fail
  have HBf := hid ((HB2.out.set 0 (.int .i64 z1)).set 1 (.int .i64 z2))
  have HIf := hid ((HI2.out.far (p := ⟨g, 0, none⟩) (fun h => HQ.out h.symm) (.int .i64 z1)).far (p := ⟨g, 1, none⟩) (fun h => HQ.out h.symm) (.int .i64 z2))
  have HKf := hid ((HK2.out.setCell (S := fun g => g = q) (p := ⟨g, 0, none⟩) (.inr HG.out) (.int .i64 z1)).setCell (S := fun g => g = q) (p := ⟨g, 1, none⟩) (.inr HG.out) (.int .i64 z2))
  exact bodyPost_ret (results_cell_row rfl _ _ g 60 _ (0, 0) _ rfl HBf.out Tryz.underlying60 rfl (show (Tryz.prog.info? 60).map (·.size) = some 2 by kernel_rfl)) rfl ⟨z1, z2, s2, e2, rfl, Z1.out, Z2.out, HKf.out, HIf.out, HSz.out, RV.out⟩
end Go.Proofs.YtmbgakjkhgdjnaaGreatDoor
