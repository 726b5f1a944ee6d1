/-
  The document's vectors: At, Plain, Ends.
  Rows of versions compared (slices.Equal, the document's Same), written by gen_pv.py out of FqB's text; the document's Vers.
-/
import Derived.Test.YtmbgakjkhgdjnaaGreatDoorQbG
import Derived.Test.YtmbgakjkhgdjnaaGreatDoorQdM
namespace Go.Proofs.YtmbgakjkhgdjnaaGreatDoor
set_option linter.unusedSimpArgs false
set_option linter.unusedVariables false
open Go.RowKit

theorem cleanL_getD {v : List Int} {k : Nat} {z : Int} (h : v[k]? = some z) : (cleanL v).getD k 0 = if k = 0 then 0 else max z 0 := by
  obtain ⟨hk, hz⟩ := List.getElem?_eq_some_iff.1 h
  unfold cleanL
  rw [List.getD_eq_getElem?_getD, List.getElem?_map]
  by_cases h0 : k = 0
  · subst h0
    rw [List.getElem?_set_self hk, if_pos rfl]; rfl
  · rw [List.getElem?_set_ne (by omega), h, if_neg h0]; rfl
theorem plain_iff {v : List Int} (hv : v.length = 65) : v = cleanL v ↔ ∀ k, k < 65 → v.getD k 0 = (cleanL v).getD k 0 := by
  constructor
  · intro h k _; rw [← h]
  · intro h
    apply List.ext_getElem?
    intro k
    by_cases hk : k < 65
    · have h1 := h k hk
      rw [List.getD_eq_getElem?_getD, List.getD_eq_getElem?_getD, List.getElem?_eq_getElem (by omega), List.getElem?_eq_getElem (by rw [cleanL_length]; omega)] at h1
      rw [List.getElem?_eq_getElem (by omega), List.getElem?_eq_getElem (by rw [cleanL_length]; omega)]
      exact congrArg some h1
    · rw [List.getElem?_eq_none (by omega), List.getElem?_eq_none (by rw [cleanL_length]; omega)]
attribute [-simp] Tryz.isAgg44 Tryz.sizeOf44
set_option maxRecDepth 100000 in
set_option maxHeartbeats 2000000 in
theorem rat_c (w : World) (v : List Int) (k : Nat) (hv : v.length = 65) (hk : k < 65) : Calls Tryz.prog 105 #[.agg (vecV v), .int .i64 k] w (Ret (.int .i64 ((cleanL v).getD k 0)) w) := by
  obtain ⟨z, hz⟩ : ∃ z, v[k]? = some z := ⟨_, List.getElem?_eq_getElem (by omega)⟩
  rw [cleanL_getD hz]
  have hc := vecV_get v k z hz
  have HE := hid (Ext.alloc w (.cells (vecV v) 44))
  clear hz hv
  by_cases h0 : k = 0
  · subst h0
    rw [if_pos rfl]
    clear hc
    go_enter Tryz.func105, Tryz.ntmps105
    go_wp2_with fail
    go_ret
    exact ⟨rfl, HE.out⟩
  · rw [if_neg h0]
    have d1 : decide ((k : Int) < 1) = false := decide_eq_false (by omega)
    have d1' : decide (k < 1) = false := decide_eq_false (by omega)
    have d2 : decide ((64 : Int) < k) = false := decide_eq_false (by omega)
    have d2' : decide (64 < k) = false := decide_eq_false (by omega)
    have d3 : decide ((k : Int) < 65) = true := decide_eq_true (by omega)
    by_cases hn : z < 0
    · have d4 : decide (z < 0) = true := decide_eq_true hn
      have e : max z 0 = 0 := by omega
      rw [e]
      clear hn e
      go_enter Tryz.func105, Tryz.ntmps105
      go_wp2_with fail
      go_ret
      exact ⟨rfl, HE.out⟩
    · have d4 : decide (z < 0) = false := decide_eq_false hn
      have e : max z 0 = z := by omega
      rw [e]
      clear hn e
      go_enter Tryz.func105, Tryz.ntmps105
      go_wp2_with fail
      go_ret
      exact ⟨rfl, HE.out⟩
set_option maxRecDepth 100000 in
set_option maxHeartbeats 4000000 in
theorem rplain_c (w : World) (v : List Int) (hv : v.length = 65) : Calls Tryz.prog 44 #[.agg (vecV v)] w (Ret (.bool (decide (v = cleanL v))) w) := by
  have HAt := fun W k hk => hid (rat_c W v k hv hk)
  have HB0 := hid (Blk.new w 44 (vecV v))
  have HE0 := hid (Ext.alloc w (.cells (vecV v) 44))
  have HV := hid hv
  have HI := hid (plain_iff hv)
  clear hv
  go_enter Tryz.func44, Tryz.ntmps44
  go_wp2_with fail
  generalize w.alloc (.cells (vecV v) 44) = w0 at HB0 HE0 ⊢
  go_loopw [3] (fun s3 wr => ∃ k : Nat, k ≤ 65 ∧ s3 = .int .i64 k ∧ Hid (Ext w wr) ∧ Hid (Blk wr w.heap.size 44 (vecV v)) ∧ Hid (∀ j, j < k → v.getD j 0 = (cleanL v).getD j 0)) (fun s3 _ => 65 - (intOf s3).toNat)
  case atStart => exact ⟨0, by omega, rfl, HE0, HB0, fun j hj => by omega⟩
  case round =>
    obtain ⟨k, hk, rfl, hE, hB, hP⟩ := hrel
    clear HB0 HE0
    by_cases hlt : k < 65
    · have d1 : decide ((k : Int) ≤ 64) = true := decide_eq_true (by omega)
      have d1' : decide (k ≤ 64) = true := decide_eq_true (by omega)
      have d3 : decide ((k : Int) < 65) = true := decide_eq_true (by omega)
      obtain ⟨z, hz⟩ : ∃ z, v[k]? = some z := ⟨_, List.getElem?_eq_getElem (by rw [HV.out]; exact hlt)⟩
      have c0 := hB.out.cell (vecV_get v k z hz)
      have lb := hB.out.lt
      have hg : v.getD k 0 = z := by rw [List.getD_eq_getElem?_getD, hz]; rfl
      have HA := fun W => HAt W k hlt
      have HF : Hid (z ≠ (cleanL v).getD k 0 → decide (v = cleanL v) = false) := fun h => decide_eq_false fun h9 => h (by rw [← hg]; exact HI.out.1 h9 k hlt)
      have HT : Hid (z = (cleanL v).getD k 0 → ∀ j, j < k + 1 → v.getD j 0 = (cleanL v).getD j 0) := fun h j hj => by
        by_cases h9 : j < k
        · exact hP.out j h9
        · obtain rfl : j = k := by omega
          rw [hg]; exact h
      clear hz hg hP
      generalize (cleanL v).getD k 0 = y at HA HF HT
      go_wp2_with fail
      refine wp_region_any_order (by kernel_rfl) (by kernel_rfl) (by kernel_rfl) ?_
      repeat (first
        | (refine AWq.val rfl rfl rfl rfl (fun K hK => ?_); go_big_quiet_op; refine hK _ ?_; clear hK K)
        | (refine AWq.skip rfl rfl rfl ?_; simp only [Act.put, List.setIfInBounds_toArray, List.set_cons_succ, List.set_cons_zero])
        | (refine AWq.call rfl Tryz.func105 (by kernel_rfl) (by kernel_rfl) rfl rfl rfl ?_; apply Exists.intro; refine And.intro (fun wc hc => ?_) ?_; (· (simp only [argsOf, anyAt, ↓reduceIte, Nat.reduceEqDiff, Array.getD_eq_getD_getElem?, List.getElem?_toArray, List.getElem?_cons_succ, List.getElem?_cons_zero, Option.getD_some]; with_reducible exact (HA _).out)); simp only [Act.put, List.setIfInBounds_toArray, List.set_cons_succ, List.set_cons_zero])
        | (refine AWq.val rfl rfl rfl rfl (fun K hK => ?_); refine quiet_load rfl rfl (fun wc hwc => by obtain ⟨E, rfl⟩ := hwc; exact hB.out.ext (Ext.of_wext _ _)) (fun wc hB => vec_load HV.out hB) (hK _ ?_); clear hK K; simp only [Act.put, List.setIfInBounds_toArray, List.set_cons_succ, List.set_cons_zero]))
      refine AWq.done rfl rfl rfl (fun w2 x2 => ?_)
      simp only [closeAny, Act.put, List.setIfInBounds_toArray, List.set_cons_succ, List.set_cons_zero]
      have hE2 := hid (hE.out.trans x2)
      have hB2 := hid (hB.out.ext x2)
      clear c0 lb hE hB x2 HA
      by_cases hzy : z = y
      · have d4 : (z != y) = false := by simp [hzy]
        have hT := hid (HT.out hzy)
        clear hzy HF HT
        go_wp2_with fail
        go_roundw
        case rel => exact ⟨k + 1, by omega, by go_num, hE2, hB2, hT⟩
        case measure => simp [intOf]; omega
      · have d4 : (z != y) = true := by simp [hzy]
        have hF := hid (HF.out hzy)
        clear hzy HF HT
        go_wp2_with fail
        go_ret
        exact ⟨by rw [hF.out]; rfl, hE2.out⟩
    · obtain rfl : k = 65 := by omega
      have hF := hid (decide_eq_true (HI.out.2 hP.out))
      clear hlt hk hP HI HAt
      go_wp2_with fail
      go_ret
      exact ⟨by rw [hF.out]; rfl, hE.out⟩
theorem endsK_one {u : List Int} (h : u.getD 0 0 = 0) : endsK u 1 = [] := by
  unfold endsK
  rw [h, if_neg (by decide)]; rfl
theorem cleanL_zero {v : List Int} (hv : v.length = 65) : (cleanL v).getD 0 0 = 0 := by
  obtain ⟨z, hz⟩ : ∃ z, v[0]? = some z := ⟨_, List.getElem?_eq_getElem (by omega)⟩
  rw [cleanL_getD hz, if_pos rfl]
set_option maxRecDepth 100000 in
set_option maxHeartbeats 4000000 in
theorem rends_c (w : World) (v : List Int) (hv : v.length = 65) : Calls Tryz.prog 51 #[.agg (vecV v)] w (RetQ (RowAt Ver.cells 2 (endsL v)) w) := by
  have HAt := fun W k hk => hid (rat_c W v k hv hk)
  have HB0 := hid (Blk.new w 44 (vecV v))
  have HE0 := hid (Ext.alloc w (.cells (vecV v) 44))
  have HV := hid hv
  have HZ := hid (endsK_one (cleanL_zero hv))
  clear hv
  unfold endsL
  go_enter Tryz.func51, Tryz.ntmps51
  go_wp2_with fail
  generalize w.alloc (.cells (vecV v) 44) = w0 at HB0 HE0 ⊢
  go_loopw [3, 4] (fun s3 s4 wr => ∃ (k : Nat) (ov : Value), ov = s3 ∧ 1 ≤ k ∧ k ≤ 65 ∧ s4 = .int .i64 k ∧ Hid (Ext w wr) ∧ Hid (Blk wr w.heap.size 44 (vecV v)) ∧ Hid ((endsK (cleanL v) k).length = 0 → s3 = .slice none 0 0) ∧ Hid (wr.ownsRow (w.heap.size + 1) 60 2 s3 (endsK (cleanL v) k).length ((endsK (cleanL v) k).map Ver.cells).flatten)) (fun _ s4 _ => 65 - (intOf s4).toNat)
  case atStart => exact ⟨1, _, rfl, by omega, by omega, rfl, HE0, HB0, fun _ => rfl, by rw [HZ.out]; exact ownsRow_nil _ _ _ _⟩
  case round =>
    obtain ⟨k, s3, rfl, hk1, hk, rfl, hE, hB, hZ, hO⟩ := hrel
    clear HB0 HE0 HZ
    by_cases hlt : k < 65
    · have d1 : decide ((k : Int) ≤ 64) = true := decide_eq_true (by omega)
      have d1' : decide (k ≤ 64) = true := decide_eq_true (by omega)
      have HA := fun W => HAt W k hlt
      have HM : Hid (endsK (cleanL v) (k + 1) = if 0 < (cleanL v).getD k 0 then endsK (cleanL v) k ++ [⟨k, (cleanL v).getD k 0⟩] else endsK (cleanL v) k) := rfl
      have hln := endsK_len (cleanL v) k
      clear HAt
      generalize endsK (cleanL v) k = acc at hO hZ HM hln
      generalize (cleanL v).getD k 0 = z at HA HM
      go_wp2_with fail
      simp only [Tryz.isAgg44, Tryz.sizeOf44, Result.andThen, ↓reduceIte, run_loadCells_blk hB.out 65 (by rw [vecV_size]; exact HV.out)]
      rw [Oper.upon_value]
      go_wp2_with fail
      refine ((HA _).out).mono ?_
      rintro e w2 ⟨rfl, x2⟩
      have hE2 := hid (hE.out.trans x2)
      have hB2 := hid (hB.out.ext x2)
      have hO2 := hid (ownsRow_ext hO.out x2)
      clear x2 hE hB hO
      by_cases hp : 0 < z
      · have dp : decide (0 < z) = true := decide_eq_true hp
        rw [if_pos hp] at HM
        clear hp
        go_wp2_with fail
        simp only [Tryz.isAgg44, Tryz.sizeOf44, Result.andThen, ↓reduceIte, run_loadCells_blk hB2.out 65 (by rw [vecV_size]; exact HV.out)]
        rw [Oper.upon_value]
        go_wp2_with fail
        refine ((HA _).out).mono ?_
        rintro e w3 ⟨rfl, x3⟩
        have hE3 := hid (hE2.out.trans x3)
        have hB3 := hid (hB2.out.ext x3)
        have hO3 := hid (ownsRow_ext hO2.out x3)
        clear x3 hE2 hB2 hO2
        obtain ⟨v', w6, hrun6, ho6, hk6, _⟩ := app_one (P := Tryz.prog) vr_elem vr_coded hO3.out (Nat.succ_le_of_lt hB3.out.lt) (⟨k, z⟩ : Ver) (by omega) (by omega)
        simp only [Ver.cells] at hrun6
        have HE6 := hid (hk6.toExt hE3.out (fun q hq => by have := (row_block hO3.out q hq).1; omega))
        have HB6 := hid (hB3.out.keep hk6 (fun h => by have := (row_block hO3.out _ h).1; omega))
        have HO6 := hid ho6
        clear ho6 hk6 hE3 hB3 hO3
        go_wp2_with (at_builtin; refine wpList_app rfl (.tmp 13) (.tmp 19) _ _ rfl rfl rfl hrun6 ?_)
        go_roundw
        case rel => exact ⟨k + 1, _, rfl, by omega, by omega, by go_num, HE6, HB6, (fun h => by rw [HM.out] at h; simp at h), by rw [HM.out]; exact HO6⟩
        case measure => simp [intOf]; omega
      · have dp : decide (0 < z) = false := decide_eq_false hp
        rw [if_neg hp] at HM
        clear hp
        go_wp2_with fail
        go_roundw
        case rel => exact ⟨k + 1, _, rfl, by omega, by omega, by go_num, hE2, hB2, (by rw [HM.out]; exact hZ), by rw [HM.out]; exact hO2⟩
        case measure => simp [intOf]; omega
    · obtain rfl : k = 65 := by omega
      have hrow := RowAt.of_row vr_coded hO.out hZ.out
      have HR := hid hrow
      clear hrow hO hZ hlt hk HAt hB
      go_wp2_with fail
      go_ret
      exact ⟨_, rfl, HR.out, hE.out⟩
end Go.Proofs.YtmbgakjkhgdjnaaGreatDoor
namespace Go.Proofs.YtmbgakjkhgdjnaaGreatDoor
set_option linter.unusedSimpArgs false
set_option linter.unusedVariables false
open Go.RowKit

set_option maxRecDepth 100000 in
set_option maxHeartbeats 4000000 in
theorem vequal_c (w : World) (u v : Value) (a b : List Ver) (hu : Sl w 2 u (a.map Ver.cells)) (hv : Sl w 2 v (b.map Ver.cells)) : Calls Tryz.prog 84 #[u, v] w (Ret (.bool (decide (a = b))) w) := by
  obtain ⟨A, c, rfl, h1, h2, h3⟩ := sl_get hu
  obtain ⟨B, d, rfl, k1, k2, k3⟩ := sl_get hv
  have HR : Hid ((a ≠ b → decide (a = b) = false) ∧ (a = b → decide (a = b) = true)) := ⟨fun h => decide_eq_false h, fun h => decide_eq_true h⟩
  generalize decide (a = b) = r at HR ⊢
  clear hu hv
  unfold maxLen at h2 k2
  by_cases hlen : a.length = b.length
  · have dl : ((a.length : Int) != b.length) = false := by simp [hlen]
    go_enter Tryz.func84, Tryz.ntmps84
    go_wp2_with fail
    go_loopw [13] (fun i wr => ∃ k : Nat, k ≤ a.length ∧ i = .int .i64 k ∧ Ext w wr ∧ Hid (a.take k = b.take k)) (fun i _ => a.length - (intOf i).toNat)
    case atStart => exact ⟨0, by omega, rfl, Ext.refl _, rfl⟩
    case round =>
      obtain ⟨k, hk, rfl, hE, ht⟩ := hrel
      have HE := hid hE
      by_cases hka : k < a.length
      · have hkb : k < b.length := by omega
        obtain ⟨b1, o1, rfl, lb1, hcell1⟩ := h3 (by omega)
        obtain ⟨b2, o2, rfl, lb2, hcell2⟩ := k3 (by omega)
        have c0 := hE.cell (hcell1 k hka 0 _ rfl)
        have c1 := hE.cell (hcell1 k hka 1 _ rfl)
        have d0 := hE.cell (hcell2 k hkb 0 _ rfl)
        have d1 := hE.cell (hcell2 k hkb 1 _ rfl)
        rw [Nat.add_zero] at c0 d0
        have lr1 := Nat.lt_of_lt_of_le lb1 hE.size
        have lr2 := Nat.lt_of_lt_of_le lb2 hE.size
        have HNe : Hid (a[k] ≠ b[k] → r = false) := fun h => HR.out.1 (fun e => h (by subst e; rfl))
        have HNx : Hid (a[k] = b[k] → a.take (k + 1) = b.take (k + 1)) := fun h => by
          rw [List.take_succ_eq_append_getElem hka, List.take_succ_eq_append_getElem hkb, ht.out, h]
        clear hcell1 hcell2 h3 k3 hE ht HR
        generalize a[k] = x at c0 c1 HNe HNx
        generalize b[k] = y at d0 d1 HNe HNx
        by_cases hxy : x = y
        · have e1 : eq2 x.by_ x.n y.by_ y.n = true := by subst hxy; simp [eq2]
          have HNx := hid (HNx.out hxy)
          clear HNe hxy
          go_wp2_with fail
          refine wp_region_any_order (by kernel_rfl) (by kernel_rfl) (by kernel_rfl) ?_
          repeat (first
            | (refine AWq.val rfl rfl rfl rfl (fun K hK => ?_); go_big_quiet_op; refine hK _ ?_; clear hK K)
            | (refine AWq.skip rfl rfl rfl ?_; simp only [Act.put, List.setIfInBounds_toArray, List.set_cons_succ, List.set_cons_zero]))
          refine AWq.done rfl rfl rfl (fun w5 x5 => ?_)
          simp only [closeAny, Act.put, List.setIfInBounds_toArray, List.set_cons_succ, List.set_cons_zero]
          go_wp2_with fail
          go_roundw
          case rel => exact ⟨k + 1, by omega, by go_num, HE.out.trans x5, HNx.out⟩
          case measure => simp [intOf]; omega
        · have e1 : eq2 x.by_ x.n y.by_ y.n = false := by
            rw [Bool.eq_false_iff]
            intro h
            exact hxy (by cases x; cases y; simp [eq2] at h; simp [h])
          have HNe := hid (HNe.out hxy)
          clear HNx hxy
          go_wp2_with fail
          refine wp_region_any_order (by kernel_rfl) (by kernel_rfl) (by kernel_rfl) ?_
          repeat (first
            | (refine AWq.val rfl rfl rfl rfl (fun K hK => ?_); go_big_quiet_op; refine hK _ ?_; clear hK K)
            | (refine AWq.skip rfl rfl rfl ?_; simp only [Act.put, List.setIfInBounds_toArray, List.set_cons_succ, List.set_cons_zero]))
          refine AWq.done rfl rfl rfl (fun w5 x5 => ?_)
          simp only [closeAny, Act.put, List.setIfInBounds_toArray, List.set_cons_succ, List.set_cons_zero]
          go_wp2_with fail
          go_ret
          exact ⟨by rw [HNe.out]; rfl, HE.out.trans x5⟩
      · obtain rfl : k = a.length := by omega
        have hr : Hid (r = true) := HR.out.2 (by have := ht.out; rw [List.take_length] at this; rw [hlen, List.take_length] at this; exact this)
        clear hE h3 k3 ht HR
        go_wp2_with fail
        go_ret
        exact ⟨by rw [hr.out]; rfl, HE.out⟩
  · have dl : ((a.length : Int) != b.length) = true := by simp; omega
    have hr : Hid (r = false) := HR.out.1 (fun e => hlen (by rw [e]))
    clear h3 k3 HR
    go_enter Tryz.func84, Tryz.ntmps84
    go_wp2_with fail
    go_ret
    exact ⟨by rw [hr.out]; rfl, Ext.refl _⟩
/-- The bytes of the first k versions behind the number. -/
def partV (f : List Ver) (k : Nat) : ByteArray := lebB f.length ++ ⟨(encL ((f.take k).map fun x => fT (verB x))).toArray⟩
theorem partV_zero (f : List Ver) : partV f 0 = lebB f.length := by
  unfold partV
  apply ByteArray.ext
  rw [ByteArray.data_append]; simp [encL]
theorem partV_all (f : List Ver) : partV f f.length = listB verB f := by
  unfold partV listB
  rw [List.take_length, encL_cons]
  apply ByteArray.ext
  apply Array.ext'
  rw [ByteArray.data_append, Array.toList_append]
  rfl
theorem partV_next {f : List Ver} {k : Nat} (h : k < f.length) : partV f k ++ textB (verB f[k]) = partV f (k + 1) := by
  unfold partV
  rw [List.take_succ_eq_append_getElem h, List.map_append]
  apply ByteArray.ext
  apply Array.ext'
  simp only [ByteArray.data_append, Array.toList_append, textB_list]
  simp [encL, fT, FldI.enc]
theorem partV_size (f : List Ver) (hl : f.length ≤ 100000) (h : ∀ x ∈ f, (verB x).size ≤ 18) (k : Nat) : (partV f k).size ≤ 9 + 27 * f.length := by
  have h1 := encT_len verB 18 (by omega) (f.take k) (fun x hx => h x (List.mem_of_mem_take hx))
  have h2 := lebB_9 (n := f.length) (by omega)
  have h3 : (9 + 18) * (f.take k).length ≤ 27 * f.length := Nat.mul_le_mul_left _ (by rw [List.length_take]; omega)
  unfold partV
  rw [ByteArray.size_append]
  have h4 : (⟨(encL ((f.take k).map fun x => fT (verB x))).toArray⟩ : ByteArray).size = (encL ((f.take k).map fun x => fT (verB x))).length := rfl
  omega
def ver64 (v : Ver) : Prop := in64 v.by_ ∧ in64 v.n
set_option maxRecDepth 100000 in
set_option maxHeartbeats 8000000 in
theorem rvers_c (w : World) (v : Value) (f : List Ver) (h : Sl w 2 v (f.map Ver.cells)) (hl : f.length ≤ 90000) (hok : ∀ x ∈ f, ver64 x) : Calls Tryz.prog 50 #[v] w (Ret (.string (listB verB f)) w) := by
  obtain ⟨A, c, rfl, h1, h2, h3⟩ := sl_get h
  unfold maxLen at h2
  have HN0 := fun W => hid (rnumber_c W f.length (by omega))
  rw [← partV_zero] at HN0
  have HVr := fun W x (hx : x ∈ f) => hid (rver_c W x (hok x hx).1 (hok x hx).2)
  have HTx := fun W s hs => hid (rtext_c W s hs)
  have HOk := hid hok
  have HSz := hid (fun k => partV_size f (by omega) (fun x hx => verB_18 (hok x hx).1 (hok x hx).2) k)
  have HA := hid (partV_all f)
  have H3 := hid h3
  unfold Ver.val at HVr
  clear h h3 hok
  go_enter Tryz.func50, Tryz.ntmps50
  go_wp2_with fail
  refine ((HN0 _).out).mono ?_
  rintro e w1 ⟨rfl, x1⟩
  have HE1 := hid x1
  clear x1 HN0
  go_wp2_with fail
  go_loopw [3, 4] (fun s3 s4 wr => ∃ k : Nat, k ≤ f.length ∧ s3 = .string (partV f k) ∧ s4 = .int .i64 k ∧ Hid (Ext w wr)) (fun _ s4 _ => f.length - (intOf s4).toNat)
  case atStart => exact ⟨0, by omega, rfl, rfl, HE1⟩
  case round =>
    obtain ⟨k, hk, rfl, rfl, hE⟩ := hrel
    clear HE1
    by_cases hlt : k < f.length
    · have d1 : decide ((k : Int) < f.length) = true := decide_eq_true (by omega)
      have d1' : decide (k < f.length) = true := decide_eq_true hlt
      obtain ⟨b, o, rfl, lb, hcell⟩ := H3.out (by omega)
      have c0 := hE.out.cell (hcell k hlt 0 _ rfl)
      have c1 := hE.out.cell (hcell k hlt 1 _ rfl)
      rw [Nat.add_zero] at c0
      have lbr := Nat.lt_of_lt_of_le lb hE.out.size
      have HV := fun W => HVr W f[k] (List.getElem_mem hlt)
      have hx := HOk.out f[k] (List.getElem_mem hlt)
      have HM := hid (partV_next hlt)
      have hS := HSz.out k
      have hsv := verB_18 hx.1 hx.2
      have HT := fun W => HTx W (verB f[k]) (by omega)
      have hst := textB_le (verB f[k]) (by omega)
      clear hcell H3 HOk HSz HA HVr HTx hx lb
      generalize f[k] = x at c0 c1 HV HM HT hsv hst
      have hS2 : (partV f k).size ≤ 3000000 := by omega
      clear hS
      generalize textB (verB x) = e4 at HT HM hst
      generalize verB x = e3 at HV HT hsv hst
      generalize hS1 : partV f (k + 1) = S1 at HM
      have HS1 := hid hS1
      clear hS1
      generalize partV f k = S at HM hS2 ⊢
      have q4 : e4.size ≤ 100 := by omega
      go_wp2_with fail
      refine ((HV _).out).mono ?_
      rintro e w2 ⟨rfl, x2⟩
      have hE2 := hid (hE.out.trans x2)
      clear x2 hE HV c0 c1
      go_wp2_with fail
      refine ((HT _).out).mono ?_
      rintro e w3 ⟨rfl, x3⟩
      have hE3 := hid (hE2.out.trans x3)
      clear x3 hE2 HT
      go_wp2_with fail
      rw [HM.out]
      clear HM hS2 q4 hsv hst
      go_roundw
      case rel => exact ⟨k + 1, by omega, by rw [HS1.out], by go_num, hE3⟩
      case measure => simp [intOf]; omega
    · obtain rfl : k = f.length := by omega
      clear hlt hk HTx HVr HOk HSz H3
      go_wp2_with fail
      go_ret
      exact ⟨by rw [← HA.out]; rfl, hE.out⟩
end Go.Proofs.YtmbgakjkhgdjnaaGreatDoor
