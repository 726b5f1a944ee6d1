/-
  lighteragelaw16.awake.
-/
import Derived.Test.YtgkdiknmjgpgmaaDoorUpV
import Derived.Test.YtgkdiknmjgpgmaaDoorUpJ
namespace Go.Proofs.YtgkdiknmjgpgmaaDoor
set_option linter.unusedSimpArgs false
set_option linter.unusedVariables false
open Go.RowKit Go.Sort

def uA : UpdI := ⟨⟨1, 1⟩, ⟨⟨1, 1⟩, 1⟩, ⟨#[97]⟩, ⟨#[120]⟩, false⟩
def uB : UpdI := ⟨⟨1, 1⟩, ⟨⟨2, 1⟩, 1⟩, ⟨#[97]⟩, ⟨#[]⟩, true⟩
theorem match_uB : matchB allF uB = true := by
  have h : (⟨#[]⟩ : ByteArray).toList.isEmpty = true := by rw [Lib.toList_data]; rfl
  unfold matchB allF hitB fileOf uB
  rw [List.any_cons, cov_of_empty (.inl h)]
  rfl
theorem view_lit : viewK (matchB allF) [uA, uB] = [uB] := by
  have h1 : itemsK [uA, uB] = [⟨1, 1⟩] := by decide
  have h2 : bestK [uA, uB] ⟨1, 1⟩ = some uB := by decide
  unfold viewK
  rw [h1]
  unfold seenK
  rw [List.filterMap_cons, h2]
  simp [Option.filter, match_uB]
theorem chk_uA : uA.chk = 0 := by
  have h1 : Pa.spB ⟨#[97]⟩ = [⟨#[97]⟩] := by unfold Pa.spB; rw [Lib.toList_data]; rfl
  have h2 : Pa.nameK ⟨#[97]⟩ = true := by unfold Pa.nameK; rw [Lib.toList_data]; decide
  have h : Pa.rightK ⟨#[97]⟩ = true := by unfold Pa.rightK; rw [h1, List.all_cons, h2]; rfl
  unfold UpdI.chk
  show chkK ⟨1, 1⟩ ⟨⟨1, 1⟩, 1⟩ ⟨#[97]⟩ (1 : Int) false = 0
  rw [chkK_rest (by decide) (by decide) h]
  decide
theorem wins_lit (w : World) : Calls Tryd.prog 22 #[.agg #[.int .i64 1, .int .i64 1, .int .i64 2, .int .i64 1, .int .i64 1, .string ⟨#[97]⟩, .string ⟨#[]⟩, .bool true], .agg #[.int .i64 1, .int .i64 1, .int .i64 1, .int .i64 1, .int .i64 1, .string ⟨#[97]⟩, .string ⟨#[120]⟩, .bool false]] w (Ret (.bool true) w) := wins_c uB uA w
theorem wins_lit2 (w : World) : Calls Tryd.prog 22 #[.agg #[.int .i64 1, .int .i64 1, .int .i64 1, .int .i64 1, .int .i64 1, .string ⟨#[97]⟩, .string ⟨#[120]⟩, .bool false], .agg #[.int .i64 1, .int .i64 1, .int .i64 2, .int .i64 1, .int .i64 1, .string ⟨#[97]⟩, .string ⟨#[]⟩, .bool true]] w (Ret (.bool false) w) := wins_c uA uB w
theorem meta_lit (w : World) : Calls Tryd.prog 15 #[.agg #[.int .i64 1, .int .i64 1, .int .i64 1, .int .i64 1, .int .i64 1, .string ⟨#[97]⟩, .string ⟨#[120]⟩, .bool false]] w (Ret (.agg #[.int .i64 1, .int .i64 1, .int .i64 1, .int .i64 1, .int .i64 1, .string ⟨#[97]⟩, .int .i64 1, .bool false]) w) := meta_c uA w
theorem check_lit (w : World) (m : Int) (hm : w.cell? ⟨0, 0, none⟩ = some (.int .i64 m)) : Calls Tryd.prog 25 #[.agg #[.int .i64 1, .int .i64 1, .int .i64 1, .int .i64 1, .int .i64 1, .string ⟨#[97]⟩, .string ⟨#[120]⟩, .bool false]] w (Ret (.int .i64 0) w) := by
  have := ucheck_c w uA m hm (by decide)
  rw [chk_uA] at this
  exact this
theorem uview_lit (W : World) (v vf : Value) (h : Sl W 8 v ([uA, uB].map UpdI.cells)) (hf : Sl W 3 vf (allF.map ClauseI.cells)) : Calls Tryd.prog 20 #[v, vf] W (RetQ (RowAt UpdI.cells 8 [uB]) W) := by
  have := uview_c W v vf [uA, uB] allF h (by simp) (fun u hu => by
    rcases List.mem_cons.1 hu with rfl | hu
    · decide
    · rw [List.mem_singleton.1 hu]; decide) hf allF_light
  rw [view_lit] at this
  exact this
set_option maxRecDepth 100000 in
set_option maxHeartbeats 4000000 in
theorem awake16_c (w : World) (m : Int) (hm : w.cell? ⟨0, 0, none⟩ = some (.int .i64 m)) : Calls Tryd.prog 11 #[] w (Ret (.bool true) w) := by
  have hfd : ∀ W : World, (Instr.field 35 (.agg #[.int .i64 1, .int .i64 1, .int .i64 1, .int .i64 1, .int .i64 1, .string ⟨#[97]⟩, .int .i64 1, .bool false]) 3).run Tryd.prog W = .ok (.int .i64 1) W := fun _ => by kernel_rfl
  have HCk := fun W (hW : Ext w W) => hid (check_lit W m (hW.cell hm))
  clear hm
  go_enter Tryd.func11, Tryd.ntmps11
  go_wp2_with fail
  have e0 := (Ext.alloc w (.cells #[.int .i64 1, .int .i64 1, .int .i64 1, .int .i64 1, .int .i64 1, .string ⟨#[97]⟩, .string ⟨#[120]⟩, .bool false] 28)).alloc' (.cells #[.int .i64 1, .int .i64 1, .int .i64 2, .int .i64 1, .int .i64 1, .string ⟨#[97]⟩, .string ⟨#[]⟩, .bool true] 28)
  have hb1 := (Blk.new w 28 #[.int .i64 1, .int .i64 1, .int .i64 1, .int .i64 1, .int .i64 1, .string ⟨#[97]⟩, .string ⟨#[120]⟩, .bool false]).alloc (.cells #[.int .i64 1, .int .i64 1, .int .i64 2, .int .i64 1, .int .i64 1, .string ⟨#[97]⟩, .string ⟨#[]⟩, .bool true] 28)
  have hb2 := Blk.new (w.alloc (.cells #[.int .i64 1, .int .i64 1, .int .i64 1, .int .i64 1, .int .i64 1, .string ⟨#[97]⟩, .string ⟨#[120]⟩, .bool false] 28)) 28 #[.int .i64 1, .int .i64 1, .int .i64 2, .int .i64 1, .int .i64 1, .string ⟨#[97]⟩, .string ⟨#[]⟩, .bool true]
  rw [World.size_alloc] at hb2
  generalize (w.alloc (.cells #[.int .i64 1, .int .i64 1, .int .i64 1, .int .i64 1, .int .i64 1, .string ⟨#[97]⟩, .string ⟨#[120]⟩, .bool false] 28)).alloc (.cells #[.int .i64 1, .int .i64 1, .int .i64 2, .int .i64 1, .int .i64 1, .string ⟨#[97]⟩, .string ⟨#[]⟩, .bool true] 28) = w0 at e0 hb1 hb2 ⊢
  generalize w.heap.size + 1 = g2 at hb2 ⊢
  generalize w.heap.size = g1 at hb1 ⊢
  have HE0 := hid e0
  have HB1 := hid hb1
  have HB2 := hid hb2
  have a0 := hb1.cell (i := 0) (v := .int .i64 1) rfl
  have a1 := hb1.cell (i := 1) (v := .int .i64 1) rfl
  have a2 := hb1.cell (i := 2) (v := .int .i64 1) rfl
  have a3 := hb1.cell (i := 3) (v := .int .i64 1) rfl
  have a4 := hb1.cell (i := 4) (v := .int .i64 1) rfl
  have a5 := hb1.cell (i := 5) (v := .string ⟨#[97]⟩) rfl
  have a6 := hb1.cell (i := 6) (v := .string ⟨#[120]⟩) rfl
  have a7 := hb1.cell (i := 7) (v := .bool false) rfl
  have al := hb1.lt
  have b0 := hb2.cell (i := 0) (v := .int .i64 1) rfl
  have b1 := hb2.cell (i := 1) (v := .int .i64 1) rfl
  have b2 := hb2.cell (i := 2) (v := .int .i64 2) rfl
  have b3 := hb2.cell (i := 3) (v := .int .i64 1) rfl
  have b4 := hb2.cell (i := 4) (v := .int .i64 1) rfl
  have b5 := hb2.cell (i := 5) (v := .string ⟨#[97]⟩) rfl
  have b6 := hb2.cell (i := 6) (v := .string ⟨#[]⟩) rfl
  have b7 := hb2.cell (i := 7) (v := .bool true) rfl
  have bl := hb2.lt
  clear hb1 hb2 e0
  refine wp_region_any_order (by kernel_rfl) (by kernel_rfl) (by kernel_rfl) ?_
  repeat (first
    | (refine AWq.val rfl rfl rfl rfl (fun K hK => ?_); go_big_quiet_op; refine hK _ ?_; clear hK K)
    | (refine AWq.skip rfl rfl rfl ?_; simp only [Act.put, List.setIfInBounds_toArray, List.set_cons_succ, List.set_cons_zero])
    | (refine AWq.opV (NewSl 28 #[.int .i64 1, .int .i64 1, .int .i64 1, .int .i64 1, .int .i64 1, .string ⟨#[97]⟩, .string ⟨#[120]⟩, .bool false, .int .i64 1, .int .i64 1, .int .i64 2, .int .i64 1, .int .i64 1, .string ⟨#[97]⟩, .string ⟨#[]⟩, .bool true] 2 2) (NewSl.steady _ _ _ _) rfl rfl rfl rfl (fun wc hc => ?_) ?_; (· (have hc' := hc.rule; clear hc; go_simp; dsimp only [Gives]; exact ⟨⟨_, rfl, Blk.new _ _ _⟩, Ext.alloc _ _⟩)))
    | (refine AWq.callQ ((fun v w' => Sl w' 3 v (allF.map ClauseI.cells))) ((fun v _ _ he h => h.ext he)) rfl Tryd.func40 (by kernel_rfl) (by kernel_rfl) rfl rfl rfl (fun wc hc => ?_) ?_; (· (simp only [argsOf, anyAt, ↓reduceIte, Nat.reduceEqDiff, Array.getD_eq_getD_getElem?, List.getElem?_toArray, List.getElem?_cons_succ, List.getElem?_cons_zero, Option.getD_some]; exact all_c _)))
    | (refine AWq.callQ (RowAt UpdI.cells 8 [uB]) (RowAt.steady _ _ _) rfl Tryd.func20 (by kernel_rfl) (by kernel_rfl) rfl rfl rfl (fun wc hc => ?_) ?_; (· (simp only [argsOf, anyAt, ↓reduceIte, Nat.reduceEqDiff, Array.getD_eq_getD_getElem?, List.getElem?_toArray, List.getElem?_cons_succ, List.getElem?_cons_zero, Option.getD_some]; intro y hy z hz; obtain ⟨g, rfl, hg⟩ := hy; exact uview_lit _ _ _ (Sl.of_flat hg ⟨[], rfl⟩ (upd_coded.sizes _) rfl (Nat.le_refl _) (by unfold maxLen; omega)) hz)))
    | (refine AWq.opQ (RowAt UpdI.cells 8 [uB]) (RowAt.steady _ _ _) rfl (fun a wc hc hl' => ⟨rfl, ?_⟩) ?_; (· (have e := hl' 17 (of_decide_eq_true (by kernel_rfl)); exact ⟨e, Ext.refl _⟩))))
  refine AWq.done rfl rfl rfl (fun w3 x3 => ?_)
  simp only [closeAny, Act.put, List.setIfInBounds_toArray, List.set_cons_succ, List.set_cons_zero]
  intro v1 hv1 _ _ _ _ _ _
  obtain ⟨A, c, rfl, g1', g2', g3⟩ := sl_get hv1.1
  obtain ⟨b, o, rfl, lb, hcell⟩ := g3 (by simp)
  have d0 := hcell 0 (by simp) 0 (.int .i64 1) rfl
  have d1 := hcell 0 (by simp) 1 (.int .i64 1) rfl
  have d2 := hcell 0 (by simp) 2 (.int .i64 2) rfl
  have d3 := hcell 0 (by simp) 3 (.int .i64 1) rfl
  have d4 := hcell 0 (by simp) 4 (.int .i64 1) rfl
  have d5 := hcell 0 (by simp) 5 (.string ⟨#[97]⟩) rfl
  have d6 := hcell 0 (by simp) 6 (.string ⟨#[]⟩) rfl
  have d7 := hcell 0 (by simp) 7 (.bool true) rfl
  unfold maxLen at g2'
  simp only [Nat.zero_mul, Nat.add_zero] at d0 d1 d2 d3 d4 d5 d6 d7
  have hb1 := HB1.out.ext x3
  have hb2 := HB2.out.ext x3
  have HE3 := hid (HE0.out.trans x3)
  have HCk3 := fun W (hW : Ext w3 W) => HCk W (HE3.out.trans hW)
  clear a0 a1 a2 a3 a4 a5 a6 a7 al b0 b1 b2 b3 b4 b5 b6 b7 bl hv1 hcell g3 HCk x3
  have a0 := hb1.cell (i := 0) (v := .int .i64 1) rfl
  have a1 := hb1.cell (i := 1) (v := .int .i64 1) rfl
  have a2 := hb1.cell (i := 2) (v := .int .i64 1) rfl
  have a3 := hb1.cell (i := 3) (v := .int .i64 1) rfl
  have a4 := hb1.cell (i := 4) (v := .int .i64 1) rfl
  have a5 := hb1.cell (i := 5) (v := .string ⟨#[97]⟩) rfl
  have a6 := hb1.cell (i := 6) (v := .string ⟨#[120]⟩) rfl
  have a7 := hb1.cell (i := 7) (v := .bool false) rfl
  have al := hb1.lt
  have b0 := hb2.cell (i := 0) (v := .int .i64 1) rfl
  have b1 := hb2.cell (i := 1) (v := .int .i64 1) rfl
  have b2 := hb2.cell (i := 2) (v := .int .i64 2) rfl
  have b3 := hb2.cell (i := 3) (v := .int .i64 1) rfl
  have b4 := hb2.cell (i := 4) (v := .int .i64 1) rfl
  have b5 := hb2.cell (i := 5) (v := .string ⟨#[97]⟩) rfl
  have b6 := hb2.cell (i := 6) (v := .string ⟨#[]⟩) rfl
  have b7 := hb2.cell (i := 7) (v := .bool true) rfl
  have bl := hb2.lt
  clear hb1 hb2 HB1 HB2
  go_wp2_with fail
  refine wp_region_any_order (by kernel_rfl) (by kernel_rfl) (by kernel_rfl) ?_
  repeat (first
    | (refine AWq.val rfl rfl rfl rfl (fun K hK => ?_); go_big_quiet_op; refine hK _ ?_; clear hK K)
    | (refine AWq.skip rfl rfl rfl ?_; simp only [Act.put, List.setIfInBounds_toArray, List.set_cons_succ, List.set_cons_zero])
    | (refine AWq.call rfl Tryd.func22 (by kernel_rfl) (by kernel_rfl) rfl rfl rfl ?_; apply Exists.intro; refine And.intro (fun wc hc => ?_) ?_; (· (simp only [argsOf, anyAt, ↓reduceIte, Nat.reduceEqDiff, Array.getD_eq_getD_getElem?, List.getElem?_toArray, List.getElem?_cons_succ, List.getElem?_cons_zero, Option.getD_some]; with_reducible exact wins_lit _)); simp only [Act.put, List.setIfInBounds_toArray, List.set_cons_succ, List.set_cons_zero])
    | (refine AWq.call rfl Tryd.func22 (by kernel_rfl) (by kernel_rfl) rfl rfl rfl ?_; apply Exists.intro; refine And.intro (fun wc hc => ?_) ?_; (· (simp only [argsOf, anyAt, ↓reduceIte, Nat.reduceEqDiff, Array.getD_eq_getD_getElem?, List.getElem?_toArray, List.getElem?_cons_succ, List.getElem?_cons_zero, Option.getD_some]; with_reducible exact wins_lit2 _)); simp only [Act.put, List.setIfInBounds_toArray, List.set_cons_succ, List.set_cons_zero])
    | (refine AWq.call rfl Tryd.func25 (by kernel_rfl) (by kernel_rfl) rfl rfl rfl ?_; apply Exists.intro; refine And.intro (fun wc hc => ?_) ?_; (· (simp only [argsOf, anyAt, ↓reduceIte, Nat.reduceEqDiff, Array.getD_eq_getD_getElem?, List.getElem?_toArray, List.getElem?_cons_succ, List.getElem?_cons_zero, Option.getD_some]; with_reducible exact (HCk3 _ hc).out)); simp only [Act.put, List.setIfInBounds_toArray, List.set_cons_succ, List.set_cons_zero])
    | (refine AWq.call rfl Tryd.func15 (by kernel_rfl) (by kernel_rfl) rfl rfl rfl ?_; apply Exists.intro; refine And.intro (fun wc hc => ?_) ?_; (· (simp only [argsOf, anyAt, ↓reduceIte, Nat.reduceEqDiff, Array.getD_eq_getD_getElem?, List.getElem?_toArray, List.getElem?_cons_succ, List.getElem?_cons_zero, Option.getD_some]; with_reducible exact meta_lit _)); simp only [Act.put, List.setIfInBounds_toArray, List.set_cons_succ, List.set_cons_zero]))
  refine AWq.done rfl rfl rfl (fun w5 x5 => ?_)
  simp only [closeAny, Act.put, List.setIfInBounds_toArray, List.set_cons_succ, List.set_cons_zero]
  go_wp2_with fail
  go_ret
  exact ⟨rfl, HE3.out.trans x5⟩
end Go.Proofs.YtgkdiknmjgpgmaaDoor
