/-
  Of updates whose texts are not far too long: may they be? (Whatever the answer is.)
-/
import Derived.Test.YtgkdiknmjgpgmaaDfI
namespace Go.Proofs.Ytgkdiknmjgpgmaa
set_option linter.unusedSimpArgs false
set_option linter.unusedVariables false
open Go.RowKit Go.Sort

/-- A truth, whichever; nothing old is touched. -/
def RetB (w : World) : Ending → World → Prop := fun e w' => ∃ b, e = .returned (.bool b) ∧ Ext w w'
set_option maxRecDepth 100000 in
set_option maxHeartbeats 2000000 in
theorem rname_e (s : ByteArray) (w : World) (hs : s.size ≤ 100000) : Calls Try.prog 63 #[.string s] w (RetB w) := by
  go_enter Try.func63, Try.ntmps63
  go_wp2_with fail
  go_loopw [3, 4] (fun d i wr => ∃ (k m : Nat), k ≤ s.size ∧ m ≤ k ∧ i = .int .i64 k ∧ d = .int .i64 m ∧ Ext w wr) (fun _ i _ => s.size - (intOf i).toNat)
  case atStart => exact ⟨0, 0, by omega, by omega, rfl, rfl, Ext.refl _⟩
  case round =>
    obtain ⟨k, m, hk, hm, rfl, rfl, hE⟩ := hrel
    have HE := hid hE
    by_cases hlt : k < s.size
    · clear hE
      by_cases h46 : ((s[k].toNat : Int) == 46) = true
      · go_wp2_with fail
        go_roundw
        case rel => exact ⟨k + 1, m + 1, by omega, by omega, by go_num, by go_num, HE.out⟩
        case measure => simp [intOf]; omega
      · have h47 : ((s[k].toNat : Int) == 46) = false := by simpa using h46
        clear h46
        generalize (s[k].toNat : Int) = z at h47
        go_wp2_with fail
        all_goals first
          | (go_ret; exact ⟨_, rfl, HE.out⟩)
          | exact ⟨⟨k + 1, m, by omega, by omega, by go_num, rfl, HE.out⟩, by simp [intOf]; omega⟩
          | exact ⟨⟨k + 1, m + 1, by omega, by omega, by go_num, by go_num, HE.out⟩, by simp [intOf]; omega⟩
    · obtain rfl : k = s.size := by omega
      clear hE
      go_wp2_with fail
      all_goals (go_ret; exact ⟨_, rfl, HE.out⟩)
set_option maxRecDepth 100000 in
set_option maxHeartbeats 2000000 in
theorem rsplit_e (s : ByteArray) (w : World) (hs : s.size ≤ 100000) : Calls Try.prog 62 #[.string s, .int .u8 47] w (RetQ (fun v w' => ∃ l : List ByteArray, RowAt strC 1 l v w' ∧ l.length ≤ 100001 ∧ ∀ x ∈ l, x.size ≤ 100000) w) := by
  go_enter Try.func62, Try.ntmps62
  go_wp2_with fail
  go_loopw [5, 6, 7] (fun v a i wr => ∃ (k m : Nat) (acc : List ByteArray), k ≤ s.size ∧ m ≤ k ∧ i = .int .i64 k ∧ a = .int .i64 m ∧ Ext w wr ∧ acc.length ≤ k ∧ (∀ x ∈ acc, x.size ≤ 100000) ∧ wr.ownsRow w.heap.size 9 1 v acc.length (acc.map strC).flatten) (fun _ _ i _ => s.size - (intOf i).toNat)
  case atStart => exact ⟨0, 0, [], by omega, by omega, rfl, rfl, Ext.refl _, by simp, by simp, ownsRow_nil _ _ _ _⟩
  case round =>
    obtain ⟨k, m, acc, hk, hm, rfl, rfl, hE, hal, hasz, hO⟩ := hrel
    have HE := hid hE
    have HO := hid hO
    have HA : Hid (∀ j, j ≤ s.size → ∀ x ∈ acc ++ [s.extract m j], x.size ≤ 100000) := fun j hj x hx => by
      rcases List.mem_append.1 hx with hx | hx
      · exact hasz x hx
      · rw [List.mem_singleton.1 hx, ByteArray.size_extract]; omega
    have HAs := hid hasz
    by_cases hlt : k < s.size
    · clear hE hO hasz
      by_cases h46 : ((s[k].toNat : Int) == 47) = true
      · obtain ⟨v', w6, hrun6, ho6, hk6, _⟩ := app_one (P := Try.prog) str_elem str_coded HO.out HE.out.size (s.extract m k) (by omega) (by omega)
        simp only [strC] at hrun6
        have HE6 := hid (hk6.toExt HE.out (fun q hq => (row_block HO.out q hq).1))
        have HO6 := hid ho6
        clear ho6 hk6
        go_wp2_with (at_builtin; refine wpList_app rfl (.tmp 19) (.tmp 24) _ _ rfl rfl rfl hrun6 ?_)
        go_roundw
        case rel => exact ⟨k + 1, k + 1, acc ++ [s.extract m k], by omega, by omega, by go_num, by go_num, HE6.out, by simp; omega, HA.out k (by omega), HO6.out⟩
        case measure => simp [intOf]; omega
      · have h47 : ((s[k].toNat : Int) == 47) = false := by simpa using h46
        clear h46
        go_wp2_with fail
        go_roundw
        case rel => exact ⟨k + 1, m, acc, by omega, by omega, by go_num, rfl, HE.out, by omega, HAs.out, HO.out⟩
        case measure => simp [intOf]; omega
    · obtain rfl : k = s.size := by omega
      obtain ⟨v', w6, hrun6, ho6, hk6, _⟩ := app_one (P := Try.prog) str_elem str_coded HO.out HE.out.size (s.extract m s.size) (by omega) (by omega)
      simp only [strC] at hrun6
      have HE6 := hid (hk6.toExt HE.out (fun q hq => (row_block HO.out q hq).1))
      have HO6 := hid ho6
      clear ho6 hk6 hE hO hasz
      go_wp2_with (at_builtin; refine wpList_app rfl (.tmp 28) (.tmp 32) _ _ rfl rfl rfl hrun6 ?_)
      go_ret
      exact ⟨_, rfl, ⟨_, RowAt.of_row str_coded HO6.out (fun h0 => by simp at h0), by simp; omega, HA.out _ (Nat.le_refl _)⟩, HE6.out⟩
set_option maxRecDepth 100000 in
set_option maxHeartbeats 2000000 in
theorem rright_e (s : ByteArray) (w : World) (hs : s.size ≤ 100000) : Calls Try.prog 37 #[.string s] w (RetB w) := by
  have HSp := hid (rsplit_e s w hs)
  go_enter Try.func37, Try.ntmps37
  go_wp2_with (go_at_call 62; refine (HSp.out).mono ?_; rintro e w1 ⟨v1, rfl, ⟨l, hv, hl1, hl2⟩, hx⟩; have HX := hid hx; obtain ⟨A, c, rfl, h1, h2, h3⟩ := sl_get hv.1; clear hx hv)
  clear HSp
  unfold maxLen at h2
  go_loopw [4] (fun i wr => ∃ k : Nat, k ≤ l.length ∧ i = .int .i64 k ∧ Ext w1 wr) (fun i _ => l.length - (intOf i).toNat)
  case atStart => exact ⟨0, by omega, rfl, Ext.refl _⟩
  case round =>
    obtain ⟨k, hk, rfl, hE⟩ := hrel
    have HE := hid hE
    by_cases hlt : k < l.length
    · obtain ⟨b, o, rfl, lb0, hc⟩ := h3 (by omega)
      have c0 := hE.cell (hc k hlt 0 _ rfl)
      rw [Nat.mul_one, Nat.add_zero] at c0
      have lbr := Nat.lt_of_lt_of_le lb0 hE.size
      have HN := fun W => hid (rname_e l[k] W (hl2 _ (List.getElem_mem hlt)))
      clear hc h3 hE hl2
      generalize l[k] = t at c0 HN
      go_wp2_with (go_at_call 63; refine ((HN _).out).mono ?_; rintro e w' ⟨b2, rfl, hx⟩; have HX2 := hid hx; clear hx; cases b2)
      all_goals go_wp2_with fail
      all_goals first
        | (go_ret; exact ⟨_, rfl, HX.out.trans (HE.out.trans HX2.out)⟩)
        | exact ⟨⟨k + 1, by omega, by go_num, HE.out.trans HX2.out⟩, by simp [intOf]; omega⟩
    · obtain rfl : k = l.length := by omega
      clear hE h3 hl2
      go_wp2_with fail
      all_goals (go_ret; exact ⟨_, rfl, HX.out.trans HE.out⟩)
end Go.Proofs.Ytgkdiknmjgpgmaa
