/-
  The document's vectors: At, Plain, Ends.
-/
import Derived.Test.YtanflgipdiogaaaVcMk
namespace Go.Proofs.Ytanflgipdiogaaa
set_option linter.unusedSimpArgs false
set_option linter.unusedVariables false
open Go.RowKit

theorem cleanL_getD {v : List Int} {k : Nat} {z : Int} (h : v[k]? = some z) : (cleanL v).getD k 0 = if k = 0 then 0 else max z 0 := by
  obtain ⟨hk, hz⟩ := List.getElem?_eq_some_iff.1 h
  unfold cleanL
  rw [List.getD_eq_getElem?_getD, List.getElem?_map]
  by_cases h0 : k = 0
  · subst h0
    rw [List.getElem?_set_self hk, if_pos rfl]; rfl
  · rw [List.getElem?_set_ne (by omega), h, if_neg h0]; rfl
theorem plain_iff {v : List Int} (hv : v.length = 65) : v = cleanL v ↔ ∀ k, k < 65 → v.getD k 0 = (cleanL v).getD k 0 := by
  constructor
  · intro h k _; rw [← h]
  · intro h
    apply List.ext_getElem?
    intro k
    by_cases hk : k < 65
    · have h1 := h k hk
      rw [List.getD_eq_getElem?_getD, List.getD_eq_getElem?_getD, List.getElem?_eq_getElem (by omega), List.getElem?_eq_getElem (by rw [cleanL_length]; omega)] at h1
      rw [List.getElem?_eq_getElem (by omega), List.getElem?_eq_getElem (by rw [cleanL_length]; omega)]
      exact congrArg some h1
    · rw [List.getElem?_eq_none (by omega), List.getElem?_eq_none (by rw [cleanL_length]; omega)]
attribute [-simp] Try.isAgg23 Try.sizeOf23
set_option maxRecDepth 100000 in
set_option maxHeartbeats 2000000 in
theorem rat_c (w : World) (v : List Int) (k : Nat) (hv : v.length = 65) (hk : k < 65) : Calls Try.prog 22 #[.agg (vecV v), .int .i64 k] w (Ret (.int .i64 ((cleanL v).getD k 0)) w) := by
  obtain ⟨z, hz⟩ : ∃ z, v[k]? = some z := ⟨_, List.getElem?_eq_getElem (by omega)⟩
  rw [cleanL_getD hz]
  have hc := vecV_get v k z hz
  have HE := hid (Ext.alloc w (.cells (vecV v) 23))
  clear hz hv
  by_cases h0 : k = 0
  · subst h0
    rw [if_pos rfl]
    clear hc
    go_enter Try.func22, Try.ntmps22
    go_wp2_with fail
    go_ret
    exact ⟨rfl, HE.out⟩
  · rw [if_neg h0]
    have d1 : decide ((k : Int) < 1) = false := decide_eq_false (by omega)
    have d1' : decide (k < 1) = false := decide_eq_false (by omega)
    have d2 : decide ((64 : Int) < k) = false := decide_eq_false (by omega)
    have d2' : decide (64 < k) = false := decide_eq_false (by omega)
    have d3 : decide ((k : Int) < 65) = true := decide_eq_true (by omega)
    by_cases hn : z < 0
    · have d4 : decide (z < 0) = true := decide_eq_true hn
      have e : max z 0 = 0 := by omega
      rw [e]
      clear hn e
      go_enter Try.func22, Try.ntmps22
      go_wp2_with fail
      go_ret
      exact ⟨rfl, HE.out⟩
    · have d4 : decide (z < 0) = false := decide_eq_false hn
      have e : max z 0 = z := by omega
      rw [e]
      clear hn e
      go_enter Try.func22, Try.ntmps22
      go_wp2_with fail
      go_ret
      exact ⟨rfl, HE.out⟩
set_option maxRecDepth 100000 in
set_option maxHeartbeats 4000000 in
theorem rplain_c (w : World) (v : List Int) (hv : v.length = 65) : Calls Try.prog 8 #[.agg (vecV v)] w (Ret (.bool (decide (v = cleanL v))) w) := by
  have HAt := fun W k hk => hid (rat_c W v k hv hk)
  have HB0 := hid (Blk.new w 23 (vecV v))
  have HE0 := hid (Ext.alloc w (.cells (vecV v) 23))
  have HV := hid hv
  have HI := hid (plain_iff hv)
  clear hv
  go_enter Try.func8, Try.ntmps8
  go_wp2_with fail
  generalize w.alloc (.cells (vecV v) 23) = w0 at HB0 HE0 ⊢
  go_loopw [3] (fun s3 wr => ∃ k : Nat, k ≤ 65 ∧ s3 = .int .i64 k ∧ Hid (Ext w wr) ∧ Hid (Blk wr w.heap.size 23 (vecV v)) ∧ Hid (∀ j, j < k → v.getD j 0 = (cleanL v).getD j 0)) (fun s3 _ => 65 - (intOf s3).toNat)
  case atStart => exact ⟨0, by omega, rfl, HE0, HB0, fun j hj => by omega⟩
  case round =>
    obtain ⟨k, hk, rfl, hE, hB, hP⟩ := hrel
    clear HB0 HE0
    by_cases hlt : k < 65
    · have d1 : decide ((k : Int) ≤ 64) = true := decide_eq_true (by omega)
      have d1' : decide (k ≤ 64) = true := decide_eq_true (by omega)
      have d3 : decide ((k : Int) < 65) = true := decide_eq_true (by omega)
      obtain ⟨z, hz⟩ : ∃ z, v[k]? = some z := ⟨_, List.getElem?_eq_getElem (by rw [HV.out]; exact hlt)⟩
      have c0 := hB.out.cell (vecV_get v k z hz)
      have lb := hB.out.lt
      have hg : v.getD k 0 = z := by rw [List.getD_eq_getElem?_getD, hz]; rfl
      have HA := fun W => HAt W k hlt
      have HF : Hid (z ≠ (cleanL v).getD k 0 → decide (v = cleanL v) = false) := fun h => decide_eq_false fun h9 => h (by rw [← hg]; exact HI.out.1 h9 k hlt)
      have HT : Hid (z = (cleanL v).getD k 0 → ∀ j, j < k + 1 → v.getD j 0 = (cleanL v).getD j 0) := fun h j hj => by
        by_cases h9 : j < k
        · exact hP.out j h9
        · obtain rfl : j = k := by omega
          rw [hg]; exact h
      clear hz hg hP
      generalize (cleanL v).getD k 0 = y at HA HF HT
      go_wp2_with fail
      refine wp_region_any_order (by kernel_rfl) (by kernel_rfl) (by kernel_rfl) ?_
      repeat (first
        | (refine AWq.val rfl rfl rfl rfl (fun K hK => ?_); go_big_quiet_op; refine hK _ ?_; clear hK K)
        | (refine AWq.skip rfl rfl rfl ?_; simp only [Act.put, List.setIfInBounds_toArray, List.set_cons_succ, List.set_cons_zero])
        | (refine AWq.call rfl Try.func22 (by kernel_rfl) (by kernel_rfl) rfl rfl rfl ?_; apply Exists.intro; refine And.intro (fun wc hc => ?_) ?_; (· (simp only [argsOf, anyAt, ↓reduceIte, Nat.reduceEqDiff, Array.getD_eq_getD_getElem?, List.getElem?_toArray, List.getElem?_cons_succ, List.getElem?_cons_zero, Option.getD_some]; with_reducible exact (HA _).out)); simp only [Act.put, List.setIfInBounds_toArray, List.set_cons_succ, List.set_cons_zero])
        | (refine AWq.val rfl rfl rfl rfl (fun K hK => ?_); refine quiet_load rfl rfl (fun wc hwc => by obtain ⟨E, rfl⟩ := hwc; exact hB.out.ext (Ext.of_wext _ _)) (fun wc hB => vec_load HV.out hB) (hK _ ?_); clear hK K; simp only [Act.put, List.setIfInBounds_toArray, List.set_cons_succ, List.set_cons_zero]))
      refine AWq.done rfl rfl rfl (fun w2 x2 => ?_)
      simp only [closeAny, Act.put, List.setIfInBounds_toArray, List.set_cons_succ, List.set_cons_zero]
      have hE2 := hid (hE.out.trans x2)
      have hB2 := hid (hB.out.ext x2)
      clear c0 lb hE hB x2 HA
      by_cases hzy : z = y
      · have d4 : (z != y) = false := by simp [hzy]
        have hT := hid (HT.out hzy)
        clear hzy HF HT
        go_wp2_with fail
        go_roundw
        case rel => exact ⟨k + 1, by omega, by go_num, hE2, hB2, hT⟩
        case measure => simp [intOf]; omega
      · have d4 : (z != y) = true := by simp [hzy]
        have hF := hid (HF.out hzy)
        clear hzy HF HT
        go_wp2_with fail
        go_ret
        exact ⟨by rw [hF.out]; rfl, hE2.out⟩
    · obtain rfl : k = 65 := by omega
      have hF := hid (decide_eq_true (HI.out.2 hP.out))
      clear hlt hk hP HI HAt
      go_wp2_with fail
      go_ret
      exact ⟨by rw [hF.out]; rfl, hE.out⟩
theorem endsK_one {u : List Int} (h : u.getD 0 0 = 0) : endsK u 1 = [] := by
  unfold endsK
  rw [h, if_neg (by decide)]; rfl
theorem cleanL_zero {v : List Int} (hv : v.length = 65) : (cleanL v).getD 0 0 = 0 := by
  obtain ⟨z, hz⟩ : ∃ z, v[0]? = some z := ⟨_, List.getElem?_eq_getElem (by omega)⟩
  rw [cleanL_getD hz, if_pos rfl]
set_option maxRecDepth 100000 in
set_option maxHeartbeats 4000000 in
theorem rends_c (w : World) (v : List Int) (hv : v.length = 65) : Calls Try.prog 10 #[.agg (vecV v)] w (RetQ (RowAt Ver.cells 2 (endsL v)) w) := by
  have HAt := fun W k hk => hid (rat_c W v k hv hk)
  have HB0 := hid (Blk.new w 23 (vecV v))
  have HE0 := hid (Ext.alloc w (.cells (vecV v) 23))
  have HV := hid hv
  have HZ := hid (endsK_one (cleanL_zero hv))
  clear hv
  unfold endsL
  go_enter Try.func10, Try.ntmps10
  go_wp2_with fail
  generalize w.alloc (.cells (vecV v) 23) = w0 at HB0 HE0 ⊢
  go_loopw [3, 4] (fun s3 s4 wr => ∃ (k : Nat) (ov : Value), ov = s3 ∧ 1 ≤ k ∧ k ≤ 65 ∧ s4 = .int .i64 k ∧ Hid (Ext w wr) ∧ Hid (Blk wr w.heap.size 23 (vecV v)) ∧ Hid ((endsK (cleanL v) k).length = 0 → s3 = .slice none 0 0) ∧ Hid (wr.ownsRow (w.heap.size + 1) 43 2 s3 (endsK (cleanL v) k).length ((endsK (cleanL v) k).map Ver.cells).flatten)) (fun _ s4 _ => 65 - (intOf s4).toNat)
  case atStart => exact ⟨1, _, rfl, by omega, by omega, rfl, HE0, HB0, fun _ => rfl, by rw [HZ.out]; exact ownsRow_nil _ _ _ _⟩
  case round =>
    obtain ⟨k, s3, rfl, hk1, hk, rfl, hE, hB, hZ, hO⟩ := hrel
    clear HB0 HE0 HZ
    by_cases hlt : k < 65
    · have d1 : decide ((k : Int) ≤ 64) = true := decide_eq_true (by omega)
      have d1' : decide (k ≤ 64) = true := decide_eq_true (by omega)
      have HA := fun W => HAt W k hlt
      have HM : Hid (endsK (cleanL v) (k + 1) = if 0 < (cleanL v).getD k 0 then endsK (cleanL v) k ++ [⟨k, (cleanL v).getD k 0⟩] else endsK (cleanL v) k) := rfl
      have hln := endsK_len (cleanL v) k
      clear HAt
      generalize endsK (cleanL v) k = acc at hO hZ HM hln
      generalize (cleanL v).getD k 0 = z at HA HM
      go_wp2_with fail
      simp only [Try.isAgg23, Try.sizeOf23, Result.andThen, ↓reduceIte, run_loadCells_blk hB.out 65 (by rw [vecV_size]; exact HV.out)]
      rw [Oper.upon_value]
      go_wp2_with fail
      refine ((HA _).out).mono ?_
      rintro e w2 ⟨rfl, x2⟩
      have hE2 := hid (hE.out.trans x2)
      have hB2 := hid (hB.out.ext x2)
      have hO2 := hid (ownsRow_ext hO.out x2)
      clear x2 hE hB hO
      by_cases hp : 0 < z
      · have dp : decide (0 < z) = true := decide_eq_true hp
        rw [if_pos hp] at HM
        clear hp
        go_wp2_with fail
        simp only [Try.isAgg23, Try.sizeOf23, Result.andThen, ↓reduceIte, run_loadCells_blk hB2.out 65 (by rw [vecV_size]; exact HV.out)]
        rw [Oper.upon_value]
        go_wp2_with fail
        refine ((HA _).out).mono ?_
        rintro e w3 ⟨rfl, x3⟩
        have hE3 := hid (hE2.out.trans x3)
        have hB3 := hid (hB2.out.ext x3)
        have hO3 := hid (ownsRow_ext hO2.out x3)
        clear x3 hE2 hB2 hO2
        obtain ⟨v', w6, hrun6, ho6, hk6, _⟩ := app_one (P := Try.prog) vr_elem vr_coded hO3.out (Nat.succ_le_of_lt hB3.out.lt) (⟨k, z⟩ : Ver) (by omega) (by omega)
        simp only [Ver.cells] at hrun6
        have HE6 := hid (hk6.toExt hE3.out (fun q hq => by have := (row_block hO3.out q hq).1; omega))
        have HB6 := hid (hB3.out.keep hk6 (fun h => by have := (row_block hO3.out _ h).1; omega))
        have HO6 := hid ho6
        clear ho6 hk6 hE3 hB3 hO3
        go_wp2_with (at_builtin; refine wpList_app rfl (.tmp 13) (.tmp 19) _ _ rfl rfl rfl hrun6 ?_)
        go_roundw
        case rel => exact ⟨k + 1, _, rfl, by omega, by omega, by go_num, HE6, HB6, (fun h => by rw [HM.out] at h; simp at h), by rw [HM.out]; exact HO6⟩
        case measure => simp [intOf]; omega
      · have dp : decide (0 < z) = false := decide_eq_false hp
        rw [if_neg hp] at HM
        clear hp
        go_wp2_with fail
        go_roundw
        case rel => exact ⟨k + 1, _, rfl, by omega, by omega, by go_num, hE2, hB2, (by rw [HM.out]; exact hZ), by rw [HM.out]; exact hO2⟩
        case measure => simp [intOf]; omega
    · obtain rfl : k = 65 := by omega
      have hrow := RowAt.of_row vr_coded hO.out hZ.out
      have HR := hid hrow
      clear hrow hO hZ hlt hk HAt hB
      go_wp2_with fail
      go_ret
      exact ⟨_, rfl, HR.out, hE.out⟩
end Go.Proofs.Ytanflgipdiogaaa
