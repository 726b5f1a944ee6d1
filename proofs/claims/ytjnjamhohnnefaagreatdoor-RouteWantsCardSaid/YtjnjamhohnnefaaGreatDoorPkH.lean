/-
  awake of chapter 28.
  Light filters (out of XUpG).
  Light of chapter 28; the law TreeChecks.
-/
import Derived.Test.YtjnjamhohnnefaaGreatDoorPkG
import Derived.Test.YtjnjamhohnnefaaGreatDoorFmA
namespace Go.Proofs.YtjnjamhohnnefaaGreatDoor
set_option linter.unusedSimpArgs false
set_option linter.unusedVariables false
open Go.RowKit Go.Sort

def fA : List ClauseI := [⟨⟨#[97]⟩, 0, 0⟩]
def up3 : List Int := [0, 1, 1]
def Fl3 : List (List ClauseI) := [allF, allF, fA]
theorem all_has (g : List ClauseI) : hasB allF g = true := hasB_yes fun p n h => by
  obtain ⟨h1, h2, _⟩ := (D_iff g p n).1 h
  refine (D_iff allF p n).2 ⟨h1, h2, ⟨⟨#[]⟩, 0, 200⟩, List.mem_singleton.2 rfl, ?_, h1, h2⟩
  unfold cov
  rw [show (⟨#[]⟩ : ByteArray).toList.isEmpty = true from (Pa.empty_iff _).2 rfl]; rfl
theorem okF_all : okF allF = true := by
  unfold okF allF rightC
  simp [Pa.nil_toList]
theorem okF_a : okF fA = true := by
  have h1 : Pa.spB ⟨#[97]⟩ = [⟨#[97]⟩] := by unfold Pa.spB; rw [Lib.toList_data]; rfl
  have h2 : Pa.nameK ⟨#[97]⟩ = true := by unfold Pa.nameK; rw [Lib.toList_data]; decide
  have h : Pa.rightK ⟨#[97]⟩ = true := by unfold Pa.rightK; rw [h1, List.all_cons, h2]; rfl
  unfold okF fA rightC
  simp [h]
theorem check3 : checkT up3 Fl3 = 0 := by
  have hs : shapeB up3 Fl3.length = true := by decide
  have hf : filtersB up3 Fl3 = true := filtersB_yes fun i hi => by
    have : i = 0 ∨ i = 1 ∨ i = 2 := by simp [up3] at hi; omega
    rcases this with rfl | rfl | rfl
    · show (okF allF && (true && sameB allF allF)) = true
      rw [okF_all]
      unfold sameB
      simp
    · show (okF allF && (true && hasB allF allF)) = true
      rw [okF_all, all_has]; rfl
    · show (okF fA && (true && hasB allF fA)) = true
      rw [okF_a, all_has]; rfl
  unfold checkT
  rw [if_neg (by decide), if_pos hs, if_pos hf]
theorem some3 (P : Int → Bool) : someT up3 Fl3 P = [1, 2, 3].filter P := by
  unfold someT
  rw [if_pos check3]; rfl
theorem root3 : rootT up3 Fl3 = 1 := by
  unfold rootT
  rw [some3]; rfl
theorem below3 : belowT up3 Fl3 1 = [2, 3] := by
  unfold belowT
  rw [some3]; rfl
theorem deep3 : deepT up3 Fl3 = 1 := by
  unfold deepT
  rw [some3]; rfl
theorem link13 : linkT up3 Fl3 1 3 = true := by
  unfold linkT
  rw [check3]; rfl
theorem link23 : linkT up3 Fl3 2 3 = false := by
  unfold linkT
  rw [check3]; rfl
theorem tree3_FsAt {w : World} {g : Nat} {A1 A2 A3 : Option Addr} {c1 c2 c3 : Nat} (h1 : Sl w 3 (.slice A1 1 c1) (allF.map ClauseI.cells)) (h2 : Sl w 3 (.slice A2 1 c2) (allF.map ClauseI.cells)) (h3 : Sl w 3 (.slice A3 1 c3) (fA.map ClauseI.cells)) (e : TypeId) (hb : Blk w g e #[.slice A1 1 c1, .slice A2 1 c2, .slice A3 1 c3]) : FsAt w (some ⟨g, 0, none⟩) 3 Fl3 := by
  refine ⟨[.slice A1 1 c1, .slice A2 1 c2, .slice A3 1 c3], rfl, Sl.of_flat hb ⟨[], rfl⟩ (fun x hx => by simp at hx; rcases hx with rfl | rfl | rfl <;> rfl) rfl (Nat.le_refl _) (by unfold maxLen; decide), fun i h h' => ?_⟩
  match i, h with
  | 0, _ => exact h1
  | 1, _ => exact h2
  | 2, _ => exact h3
theorem fl3_light : ∀ f ∈ Fl3, LightF f ∧ f.length ≤ 5000 := fun f hf => by
  simp only [Fl3, List.mem_cons, List.not_mem_nil, or_false] at hf
  rcases hf with rfl | rfl | rfl
  · exact ⟨allF_light, by decide⟩
  · exact ⟨allF_light, by decide⟩
  · exact ⟨fun c hc => by rw [List.mem_singleton.1 hc]; decide, by decide⟩
section
variable {w : World} {g q : Nat} (h : TreeAt w up3 Fl3 (some ⟨g, 0, none⟩) (some ⟨q, 0, none⟩) 3 3)
include h
theorem check3_c : Calls Tryz.prog 12 #[.agg #[.slice (some ⟨g, 0, none⟩) 3 3, .slice (some ⟨q, 0, none⟩) 3 3]] w (Ret (.int .i64 0) w) := by
  obtain ⟨m, hm⟩ := h.m
  have := check_c w up3 Fl3 (some ⟨g, 0, none⟩) (some ⟨q, 0, none⟩) 3 3 m hm h.u h.l h.f h.L
  rw [check3] at this
  exact this
theorem root3_c : Calls Tryz.prog 21 #[.agg #[.slice (some ⟨g, 0, none⟩) 3 3, .slice (some ⟨q, 0, none⟩) 3 3]] w (Ret (.int .i64 1) w) := by
  have := root_c w up3 Fl3 _ _ 3 3 h
  rw [root3] at this
  exact this
theorem deep3_c : Calls Tryz.prog 22 #[.agg #[.slice (some ⟨g, 0, none⟩) 3 3, .slice (some ⟨q, 0, none⟩) 3 3]] w (Ret (.int .i64 1) w) := by
  have := deepest_c w up3 Fl3 _ _ 3 3 h
  rw [deep3] at this
  exact this
theorem link13_c : Calls Tryz.prog 27 #[.agg #[.slice (some ⟨g, 0, none⟩) 3 3, .slice (some ⟨q, 0, none⟩) 3 3], .int .i64 1, .int .i64 3] w (Ret (.bool true) w) := by
  have := linked_c w up3 Fl3 _ _ 3 3 1 3 h
  rw [link13] at this
  exact this
theorem link23_c : Calls Tryz.prog 27 #[.agg #[.slice (some ⟨g, 0, none⟩) 3 3, .slice (some ⟨q, 0, none⟩) 3 3], .int .i64 2, .int .i64 3] w (Ret (.bool false) w) := by
  have := linked_c w up3 Fl3 _ _ 3 3 2 3 h
  rw [link23] at this
  exact this
theorem below3_c : Calls Tryz.prog 25 #[.agg #[.slice (some ⟨g, 0, none⟩) 3 3, .slice (some ⟨q, 0, none⟩) 3 3], .int .i64 1] w (RetQ (fun v w' => Sl w' 1 v (Ints [2, 3])) w) := by
  have := below_c w up3 Fl3 _ _ 3 3 1 h
  rw [below3] at this
  exact this
end
set_option maxRecDepth 100000 in
set_option maxHeartbeats 4000000 in
theorem awake28_c (w : World) (m : Int) (hm : w.cell? ⟨0, 0, none⟩ = some (.int .i64 m)) : Calls Tryz.prog 11 #[] w (Ret (.bool true) w) := by
  have HA := fun W => hid (all_c W)
  have HM := hid hm
  have HU : Hid (Sl (w.alloc (.cells #[.int .i64 0, .int .i64 1, .int .i64 1] 3)) 1 (.slice (some ⟨w.heap.size, 0, none⟩) 3 3) (Ints up3)) := lit_row (w := w) (n := 3) int_coded 3 up3 #[.int .i64 0, .int .i64 1, .int .i64 1] rfl rfl (by unfold maxLen; omega)
  have HE0 := hid (Ext.alloc w (.cells #[.int .i64 0, .int .i64 1, .int .i64 1] 3))
  clear hm
  go_enter Tryz.func11, Tryz.ntmps11
  go_wp2_with fail
  generalize w.alloc (.cells #[.int .i64 0, .int .i64 1, .int .i64 1] 3) = w0 at HU HE0 ⊢
  generalize w.heap.size = g at HU ⊢
  refine ((HA _).out).mono ?_
  rintro e w1 ⟨v1, rfl, hv1, x1⟩
  have HV1 := hid hv1
  have X1 := hid (HE0.out.trans x1)
  have HU1 := hid (HU.out.ext x1)
  clear x1 hv1 HU HE0
  go_wp2_with fail
  refine ((HA _).out).mono ?_
  rintro e w2 ⟨v2, rfl, hv2, x2⟩
  have HV2 := hid hv2
  have X2 := hid (X1.out.trans x2)
  have HU2 := hid (HU1.out.ext x2)
  have HV1' := hid (HV1.out.ext x2)
  clear x2 hv2 HU1 X1 HV1 HA
  obtain ⟨A1, c1, hv1, p1, p2, _⟩ := sl_get HV1'.out
  obtain ⟨A2, c2, hv2, q1, q2, _⟩ := sl_get HV2.out
  rw [show allF.length = 1 from rfl] at hv1 hv2 p1 q1
  subst hv1 hv2
  unfold maxLen at p2 q2
  go_wp2_with fail
  have hA := lit_row (w := w2) (n := 1) clause_coded 65 fA #[.string ⟨#[97]⟩, .int .i64 0, .int .i64 0] rfl rfl (by unfold maxLen; omega)
  have ha := Ext.alloc w2 (.cells #[.string ⟨#[97]⟩, .int .i64 0, .int .i64 0] 65)
  generalize hW1 : w2.alloc (.cells #[.string ⟨#[97]⟩, .int .i64 0, .int .i64 0] 65) = W1 at hA ha
  have hs1 : W1.heap.size = w2.heap.size + 1 := by rw [← hW1, World.size_alloc]
  have hbF := Blk.new W1 30 #[.slice A1 1 c1, .slice A2 1 c2, .slice (some ⟨w2.heap.size, 0, none⟩) 1 1]
  have hf := Ext.alloc W1 (.cells #[.slice A1 1 c1, .slice A2 1 c2, .slice (some ⟨w2.heap.size, 0, none⟩) 1 1] 30)
  rw [hs1] at hbF
  generalize hW2 : W1.alloc (.cells #[.slice A1 1 c1, .slice A2 1 c2, .slice (some ⟨w2.heap.size, 0, none⟩) 1 1] 30) = W2 at hbF hf
  have hs2 : W2.heap.size = w2.heap.size + 1 + 1 := by rw [← hW2, World.size_alloc, hs1]
  have hbT := Blk.new W2 25 #[.slice (some ⟨g, 0, none⟩) 3 3, .slice (some ⟨w2.heap.size + 1, 0, none⟩) 3 3]
  have ht := Ext.alloc W2 (.cells #[.slice (some ⟨g, 0, none⟩) 3 3, .slice (some ⟨w2.heap.size + 1, 0, none⟩) 3 3] 25)
  rw [hs2] at hbT
  generalize hW3 : W2.alloc (.cells #[.slice (some ⟨g, 0, none⟩) 3 3, .slice (some ⟨w2.heap.size + 1, 0, none⟩) 3 3] 25) = W3 at hbT ht
  have X3 := hid (X2.out.trans (ha.trans (hf.trans ht)))
  have HB3 := hid hbT
  have HT3 : Hid (TreeAt W3 up3 Fl3 (some ⟨g, 0, none⟩) (some ⟨w2.heap.size + 1, 0, none⟩) 3 3) := ⟨⟨m, X3.out.cell HM.out⟩, HU2.out.ext (ha.trans (hf.trans ht)), by decide, (tree3_FsAt (HV1'.out.ext (ha.trans hf)) (HV2.out.ext (ha.trans hf)) (hA.ext hf) 30 hbF).ext ht, fl3_light⟩
  clear ha hf ht hbT hbF hA
  clear hW1 hW2 hW3 hs1 hs2 HV1' HV2 HU2 HM X2
  generalize w2.heap.size = q at HB3 HT3 ⊢
  refine (check3_c HT3.out).mono ?_
  rintro e w4 ⟨rfl, x4⟩
  have X4 := hid (X3.out.trans x4)
  have HB4 := hid (HB3.out.ext x4)
  have HT4 := hid (HT3.out.ext x4)
  have a4 := HB4.out.cell (i := 0) (v := .slice (some ⟨g, 0, none⟩) 3 3) rfl
  have b4 := HB4.out.cell (i := 1) (v := .slice (some ⟨q + 1, 0, none⟩) 3 3) rfl
  have l4 := HB4.out.lt
  clear x4 HB3 HT3
  go_wp2_with fail
  refine (root3_c HT4.out).mono ?_
  rintro e w5 ⟨rfl, x5⟩
  have X5 := hid (X4.out.trans x5)
  have HB5 := hid (HB4.out.ext x5)
  have HT5 := hid (HT4.out.ext x5)
  have a5 := HB5.out.cell (i := 0) (v := .slice (some ⟨g, 0, none⟩) 3 3) rfl
  have b5 := HB5.out.cell (i := 1) (v := .slice (some ⟨q + 1, 0, none⟩) 3 3) rfl
  have l5 := HB5.out.lt
  clear x5 HB4 HT4 a4 b4 l4
  go_wp2_with fail
  refine (below3_c HT5.out).mono ?_
  rintro e w6 ⟨v6, rfl, hv6, x6⟩
  have X6 := hid (X5.out.trans x6)
  have HV := hid hv6
  obtain ⟨AV, cV, rfl, _⟩ := hv6
  have HB6 := hid (HB5.out.ext x6)
  have HT6 := hid (HT5.out.ext x6)
  have a6 := HB6.out.cell (i := 0) (v := .slice (some ⟨g, 0, none⟩) 3 3) rfl
  have b6 := HB6.out.cell (i := 1) (v := .slice (some ⟨q + 1, 0, none⟩) 3 3) rfl
  have l6 := HB6.out.lt
  clear x6 HB5 HT5 a5 b5 l5
  go_wp2_with fail
  have HL : Hid (Sl (w6.alloc (.cells #[.int .i64 2, .int .i64 3] 3)) 1 (.slice (some ⟨w6.heap.size, 0, none⟩) 2 2) (Ints [2, 3])) := lit_row (w := w6) (n := 2) int_coded 3 [2, 3] #[.int .i64 2, .int .i64 3] rfl rfl (by unfold maxLen; omega)
  have x0 := Ext.alloc w6 (.cells #[.int .i64 2, .int .i64 3] 3)
  refine (rints_c _ _ _ [2, 3] (HV.out.ext x0) HL.out (by decide)).mono ?_
  rintro e w7 ⟨rfl, x7⟩
  have x7 := x0.trans x7
  have X7 := hid (X6.out.trans x7)
  have HB7 := hid (HB6.out.ext x7)
  have HT7 := hid (HT6.out.ext x7)
  have a7 := HB7.out.cell (i := 0) (v := .slice (some ⟨g, 0, none⟩) 3 3) rfl
  have b7 := HB7.out.cell (i := 1) (v := .slice (some ⟨q + 1, 0, none⟩) 3 3) rfl
  have l7 := HB7.out.lt
  clear x7 x0 HB6 HT6 a6 b6 l6 HL HV
  go_wp2_with fail
  refine (deep3_c HT7.out).mono ?_
  rintro e w8 ⟨rfl, x8⟩
  have X8 := hid (X7.out.trans x8)
  have HB8 := hid (HB7.out.ext x8)
  have HT8 := hid (HT7.out.ext x8)
  have a8 := HB8.out.cell (i := 0) (v := .slice (some ⟨g, 0, none⟩) 3 3) rfl
  have b8 := HB8.out.cell (i := 1) (v := .slice (some ⟨q + 1, 0, none⟩) 3 3) rfl
  have l8 := HB8.out.lt
  clear x8 HB7 HT7 a7 b7 l7
  go_wp2_with fail
  refine (link13_c HT8.out).mono ?_
  rintro e w9 ⟨rfl, x9⟩
  have X9 := hid (X8.out.trans x9)
  have HB9 := hid (HB8.out.ext x9)
  have HT9 := hid (HT8.out.ext x9)
  have a9 := HB9.out.cell (i := 0) (v := .slice (some ⟨g, 0, none⟩) 3 3) rfl
  have b9 := HB9.out.cell (i := 1) (v := .slice (some ⟨q + 1, 0, none⟩) 3 3) rfl
  have l9 := HB9.out.lt
  clear x9 HB8 HT8 a8 b8 l8
  go_wp2_with fail
  refine (link23_c HT9.out).mono ?_
  rintro e w10 ⟨rfl, x10⟩
  have X10 := hid (X9.out.trans x10)
  have HB10 := hid (HB9.out.ext x10)
  have HT10 := hid (HT9.out.ext x10)
  have a10 := HB10.out.cell (i := 0) (v := .slice (some ⟨g, 0, none⟩) 3 3) rfl
  have b10 := HB10.out.cell (i := 1) (v := .slice (some ⟨q + 1, 0, none⟩) 3 3) rfl
  have l10 := HB10.out.lt
  clear x10 HB9 HT9 a9 b9 l9
  go_wp2_with fail
  go_ret
  exact ⟨rfl, X10.out⟩
end Go.Proofs.YtjnjamhohnnefaaGreatDoor
namespace Go.Proofs.YtjnjamhohnnefaaGreatDoor
set_option linter.unusedSimpArgs false
set_option linter.unusedVariables false
open Go.RowKit Go.Sort

def lightF (f : List ClauseI) : Bool := f.all (fun c => decide (c.pre.size ≤ 100)) && decide (f.length ≤ 24)
theorem lightF_iff {f : List ClauseI} : lightF f = true ↔ LightF f ∧ f.length ≤ 24 := by
  unfold lightF LightF
  rw [Bool.and_eq_true, List.all_eq_true, decide_eq_true_eq]
  exact and_congr (forall_congr' fun c => forall_congr' fun _ => decide_eq_true_iff) Iff.rfl
theorem lightF_no {f : List ClauseI} {k : Nat} (h : k < f.length) (ht : ¬ f[k].pre.size ≤ 100) : lightF f = false := by
  rw [Bool.eq_false_iff, Ne, lightF_iff]
  rintro ⟨h1, _⟩
  exact ht (h1 _ (List.getElem_mem h))
set_option maxRecDepth 100000 in
set_option maxHeartbeats 1000000 in
theorem lightF_c (w : World) (v : Value) (f : List ClauseI) (h : Sl w 3 v (f.map ClauseI.cells)) : Calls Tryz.prog 14 #[v] w (Ret (.bool (lightF f)) w) := by
  obtain ⟨A, c, rfl, h1, h2, h3⟩ := sl_get h
  unfold maxLen at h2
  clear h
  go_enter Tryz.func14, Tryz.ntmps14
  go_wp2_with fail
  go_loopw [3] (fun i wr => ∃ k : Nat, k ≤ f.length ∧ i = .int .i64 k ∧ Ext w wr ∧ Hid (∀ j (hj : j < f.length), j < k → f[j].pre.size ≤ 100)) (fun i _ => f.length - (intOf i).toNat)
  case atStart => exact ⟨0, by omega, rfl, Ext.refl _, fun j _ hj => by omega⟩
  case round =>
    obtain ⟨k, hk, rfl, hE, hno⟩ := hrel
    have HE := hid hE
    by_cases hlt : k < f.length
    · obtain ⟨b, o, rfl, lb, hcell⟩ := h3 (by omega)
      have c0 := hE.cell (hcell k hlt 0 _ rfl)
      have c1 := hE.cell (hcell k hlt 1 _ rfl)
      have c2 := hE.cell (hcell k hlt 2 _ rfl)
      rw [Nat.add_zero] at c0
      have lbr := Nat.lt_of_lt_of_le lb hE.size
      have HF : Hid (¬ f[k].pre.size ≤ 100 → lightF f = false) := fun e => lightF_no hlt e
      have HNx : Hid (f[k].pre.size ≤ 100 → ∀ j (hj : j < f.length), j < k + 1 → f[j].pre.size ≤ 100) := fun e j hj hjk => by
        by_cases hjk' : j = k
        · subst hjk'; exact e
        · exact hno.out j hj (by omega)
      clear hcell h3 hE hno
      generalize f[k] = x at *
      by_cases hp : x.pre.size ≤ 100
      · have d0 : decide ((100 : Int) < x.pre.size) = false := by simp; omega
        have HNx := hid (HNx.out hp)
        clear HF hp
        go_wp2_with fail
        go_roundw
        case rel => exact ⟨k + 1, by omega, by go_num, HE.out, HNx.out⟩
        case measure => simp [intOf]; omega
      · have d0 : decide ((100 : Int) < x.pre.size) = true := by simp; omega
        have HF := hid (HF.out hp)
        clear HNx hp
        go_wp2_with fail
        go_ret
        exact ⟨by rw [HF.out]; rfl, HE.out⟩
    · obtain rfl : k = f.length := by omega
      have hall : LightF f := fun c hc => by
        obtain ⟨j, hj, rfl⟩ := List.getElem_of_mem hc
        exact hno.out j hj hj
      have HB : Hid (lightF f = decide (f.length ≤ 24)) := by
        unfold Hid
        rw [Bool.eq_iff_iff, lightF_iff, decide_eq_true_eq]
        exact ⟨fun h => h.2, fun h => ⟨hall, h⟩⟩
      clear hE h3 hno hall
      by_cases hl : f.length ≤ 24
      · have d1 : decide ((f.length : Int) ≤ 24) = true := by simp; omega
        have HB : Hid (lightF f = true) := by rw [HB.out]; exact decide_eq_true hl
        clear hl
        go_wp2_with fail
        go_ret
        exact ⟨by rw [HB.out]; rfl, HE.out⟩
      · have d1 : decide ((f.length : Int) ≤ 24) = false := by simp; omega
        have HB : Hid (lightF f = false) := by rw [HB.out]; exact decide_eq_false hl
        clear hl
        go_wp2_with fail
        go_ret
        exact ⟨by rw [HB.out]; rfl, HE.out⟩

end Go.Proofs.YtjnjamhohnnefaaGreatDoor
namespace Go.Proofs.YtjnjamhohnnefaaGreatDoor
set_option linter.unusedSimpArgs false
set_option linter.unusedVariables false
open Go.RowKit Go.Sort

/-- A tree that is not far too great. -/
def lightT (up : List Int) (Fl : List (List ClauseI)) : Bool := Fl.all lightF && (decide (up.length ≤ 70) && decide (Fl.length ≤ 70))
theorem lightT_tree {w : World} {up : List Int} {Fl : List (List ClauseI)} {A AF : Option Addr} {c cF : Nat} (h : lightT up Fl = true) (m : Int) (hm : w.cell? ⟨0, 0, none⟩ = some (.int .i64 m)) (hu : Sl w 1 (.slice A up.length c) (Ints up)) (hF : FsAt w AF cF Fl) : TreeAt w up Fl A AF c cF := by
  unfold lightT at h
  rw [Bool.and_eq_true, Bool.and_eq_true, List.all_eq_true, decide_eq_true_eq, decide_eq_true_eq] at h
  refine ⟨⟨m, hm⟩, hu, by omega, hF, fun f hf => ?_⟩
  obtain ⟨h1, h2⟩ := lightF_iff.1 (h.1 f hf)
  exact ⟨h1, by omega⟩
set_option maxRecDepth 100000 in
set_option maxHeartbeats 4000000 in
theorem light28_c (w : World) (up : List Int) (Fl : List (List ClauseI)) (A AF : Option Addr) (c cF : Nat) (hu : Sl w 1 (.slice A up.length c) (Ints up)) (hF : FsAt w AF cF Fl) : Calls Tryz.prog 10 #[.agg #[.slice A up.length c, .slice AF Fl.length cF]] w (Ret (.bool (lightT up Fl)) w) := by
  have HE0 := hid (Ext.alloc w (.cells #[.slice A up.length c, .slice AF Fl.length cF] 25))
  have HB0 := hid (Blk.new w 25 #[.slice A up.length c, .slice AF Fl.length cF])
  have HF := hid hF
  obtain ⟨p1, p2⟩ := hF.cap
  obtain ⟨q1, q2⟩ := show up.length ≤ c ∧ c ≤ maxLen by
    obtain ⟨A', c', hv, h2, h3, _⟩ := hu
    injection hv with hA hn hc
    subst hc
    simp only [Ints, List.length_map] at h2
    exact ⟨h2, h3⟩
  unfold maxLen at p2 q2
  have HNo : Hid (∀ i (h : i < Fl.length), lightF Fl[i] = false → lightT up Fl = false) := fun i h e => by
    unfold lightT
    rw [List.all_eq_false.2 ⟨_, List.getElem_mem h, by rw [e]; exact Bool.false_ne_true⟩, Bool.false_and]
  have HYes : Hid ((∀ i (h : i < Fl.length), lightF Fl[i] = true) → lightT up Fl = (decide (up.length ≤ 70) && decide (Fl.length ≤ 70))) := fun h => by
    unfold lightT
    rw [List.all_eq_true.2 (fun f hf => by
      obtain ⟨j, hj, rfl⟩ := List.getElem_of_mem hf
      exact h j hj), Bool.true_and]
  generalize lightT up Fl = r at HNo HYes ⊢
  clear hF hu
  go_enter Tryz.func10, Tryz.ntmps10
  go_wp2_with fail
  generalize w.alloc (.cells #[.slice A up.length c, .slice AF Fl.length cF] 25) = w0 at HE0 HB0 ⊢
  generalize w.heap.size = g at HB0 ⊢
  have z0 := HB0.out.cell (i := 0) (v := .slice A up.length c) rfl
  have z1 := HB0.out.cell (i := 1) (v := .slice AF Fl.length cF) rfl
  have zl := HB0.out.lt
  go_loopw [3] (fun i wr => ∃ k : Nat, k ≤ Fl.length ∧ i = .int .i64 k ∧ Ext w0 wr ∧ Hid (∀ j (h : j < Fl.length), j < k → lightF Fl[j] = true)) (fun i _ => Fl.length - (intOf i).toNat)
  case atStart => exact ⟨0, by omega, rfl, Ext.refl _, fun j _ hj => by omega⟩
  case round =>
    obtain ⟨k, hk, rfl, hE, hno⟩ := hrel
    have HE := hid hE
    have hb := HB0.out.ext hE
    have q0 := hb.cell (i := 0) (v := .slice A up.length c) rfl
    have q1' := hb.cell (i := 1) (v := .slice AF Fl.length cF) rfl
    have ql := hb.lt
    clear z0 z1 zl
    by_cases hlt : k < Fl.length
    · obtain ⟨bF, oF, A2, c2, rfl, lF, f0, hs⟩ := (HF.out.ext (HE0.out.trans hE)).at hlt
      have HLt := hid (lightF_c wr _ _ hs)
      have HN1 := hid (HNo.out k hlt)
      have HNx : Hid (lightF Fl[k] = true → ∀ j (h : j < Fl.length), j < k + 1 → lightF Fl[j] = true) := fun e j hj hjk => by
        by_cases hjk' : j = k
        · subst hjk'; exact e
        · exact hno.out j hj (by omega)
      obtain ⟨hl2, hm2⟩ := show Fl[k].length ≤ c2 ∧ c2 ≤ maxLen by
        obtain ⟨A', c', hv, h2, h3, _⟩ := sl_get hs
        injection hv with hA hn hc
        subst hc
        exact ⟨h2, h3⟩
      unfold maxLen at hm2
      clear hs hno HNo HYes hE
      generalize Fl[k] = f at f0 HLt HN1 HNx hl2
      cases hlf : lightF f with
      | false =>
        rw [hlf] at HLt
        have HN1 := hid (HN1.out hlf)
        clear HNx hlf
        go_wp2_with fail
        refine (HLt.out).mono ?_
        rintro e w2 ⟨rfl, x2⟩
        have X2 := hid (HE.out.trans x2)
        clear x2 HLt
        go_wp2_with fail
        go_ret
        exact ⟨by rw [HN1.out]; rfl, HE0.out.trans X2.out⟩
      | true =>
        rw [hlf] at HLt
        have HNx := hid (HNx.out hlf)
        clear HN1 hlf
        go_wp2_with fail
        refine (HLt.out).mono ?_
        rintro e w2 ⟨rfl, x2⟩
        have X2 := hid (HE.out.trans x2)
        clear x2 HLt
        go_wp2_with fail
        go_roundw
        case rel => exact ⟨k + 1, by omega, by go_num, X2.out, HNx.out⟩
        case measure => simp [intOf]; omega
    · obtain rfl : k = Fl.length := by omega
      have hr := hid (HYes.out fun i hi => hno.out i hi hi)
      clear hE hno HYes HNo
      cases d1 : decide (up.length ≤ 70) with
      | false =>
        have d1' : decide ((up.length : Int) ≤ 70) = false := by simp at d1 ⊢; omega
        have hr : Hid (r = false) := by rw [hr.out, d1]; rfl
        clear d1
        go_wp2_with fail
        go_ret
        exact ⟨by rw [hr.out]; rfl, HE0.out.trans HE.out⟩
      | true =>
        have d1' : decide ((up.length : Int) ≤ 70) = true := by simp at d1 ⊢; omega
        cases d2 : decide (Fl.length ≤ 70) with
        | false =>
          have d2' : decide ((Fl.length : Int) ≤ 70) = false := by simp at d2 ⊢; omega
          have hr : Hid (r = false) := by rw [hr.out, d1, d2]; rfl
          clear d1 d2
          go_wp2_with fail
          go_ret
          exact ⟨by rw [hr.out]; rfl, HE0.out.trans HE.out⟩
        | true =>
          have d2' : decide ((Fl.length : Int) ≤ 70) = true := by simp at d2 ⊢; omega
          have hr : Hid (r = true) := by rw [hr.out, d1, d2]; rfl
          clear d1 d2
          go_wp2_with fail
          go_ret
          exact ⟨by rw [hr.out]; rfl, HE0.out.trans HE.out⟩
set_option maxRecDepth 100000 in
set_option maxHeartbeats 8000000 in
theorem treeChecks_walk (w : World) (m : Int) (hm : w.cell? ⟨0, 0, none⟩ = some (.int .i64 m)) (up : List Int) (Fl : List (List ClauseI)) (A AF : Option Addr) (c cF : Nat) (hu : Sl w 1 (.slice A up.length c) (Ints up)) (hF : FsAt w AF cF Fl) : Calls Tryz.prog 3 #[.agg #[.slice A up.length c, .slice AF Fl.length cF]] w (Ret (.bool true) w) := by
  have HE0 := hid (Ext.alloc w (.cells #[.slice A up.length c, .slice AF Fl.length cF] 25))
  have HB0 := hid (Blk.new w 25 #[.slice A up.length c, .slice AF Fl.length cF])
  have HAw := fun W (hW : Ext w W) => hid (awake28_c W m (hW.cell hm))
  have HLt := fun W (hW : Ext w W) => hid (light28_c W up Fl A AF c cF (hu.ext hW) (hF.ext hW))
  have HTr : Hid (lightT up Fl = true → TreeAt w up Fl A AF c cF) := fun h => lightT_tree h m hm hu hF
  clear hm hu hF
  generalize lightT up Fl = lt at HLt HTr
  cases lt with
  | false =>
    clear HTr
    go_enter Tryz.func3, Tryz.ntmps3
    go_wp2_with fail
    generalize w.alloc (.cells #[.slice A up.length c, .slice AF Fl.length cF] 25) = w0 at HE0 HB0 ⊢
    refine ((HLt _ HE0.out).out).mono ?_
    rintro e w1 ⟨rfl, x1⟩
    have X1 := hid (HE0.out.trans x1)
    clear x1 HLt
    go_wp2_with fail
    refine ((HAw _ X1.out).out).mono ?_
    rintro e w2 ⟨rfl, x2⟩
    have X2 := hid (X1.out.trans x2)
    clear x2 HAw
    go_wp2_with fail
    go_ret
    exact ⟨rfl, X2.out⟩
  | true =>
    have ht := HTr.out rfl
    obtain ⟨m', hm'⟩ := ht.m
    have HC1 := fun W (hW : Ext w W) => hid (check_c W up Fl A AF c cF m' (hW.cell hm') (ht.u.ext hW) ht.l (ht.f.ext hW) ht.L)
    have HC2 := fun W (hW : Ext w W) => hid (rcheck28_c W up Fl A AF c cF (ht.u.ext hW) ht.l (ht.f.ext hW) ht.L)
    clear HTr ht hm'
    generalize checkT up Fl = ck at HC1 HC2
    go_enter Tryz.func3, Tryz.ntmps3
    go_wp2_with fail
    generalize w.alloc (.cells #[.slice A up.length c, .slice AF Fl.length cF] 25) = w0 at HE0 HB0 ⊢
    generalize w.heap.size = g at HB0 ⊢
    refine ((HLt _ HE0.out).out).mono ?_
    rintro e w1 ⟨rfl, x1⟩
    have X1 := hid (HE0.out.trans x1)
    have HB1 := hid (HB0.out.ext x1)
    have y0 := HB1.out.cell (i := 0) (v := .slice A up.length c) rfl
    have y1 := HB1.out.cell (i := 1) (v := .slice AF Fl.length cF) rfl
    have yl := HB1.out.lt
    clear x1 HLt HB0
    go_wp2_with fail
    refine wp_region_any_order (by kernel_rfl) (by kernel_rfl) (by kernel_rfl) ?_
    repeat (first
      | (refine AWq.val rfl rfl rfl rfl (fun K hK => ?_); go_big_quiet_op; refine hK _ ?_; clear hK K)
      | (refine AWq.skip rfl rfl rfl ?_; simp only [Act.put, List.setIfInBounds_toArray, List.set_cons_succ, List.set_cons_zero])
      | (refine AWq.call rfl Tryz.func11 (by kernel_rfl) (by kernel_rfl) rfl rfl rfl ?_; apply Exists.intro; refine And.intro (fun wc hc => ?_) ?_; (· (simp only [argsOf, anyAt, ↓reduceIte, Nat.reduceEqDiff, Array.getD_eq_getD_getElem?, List.getElem?_toArray, List.getElem?_cons_succ, List.getElem?_cons_zero, Option.getD_some]; with_reducible exact (HAw _ (X1.out.trans hc)).out)); simp only [Act.put, List.setIfInBounds_toArray, List.set_cons_succ, List.set_cons_zero])
      | (refine AWq.call rfl Tryz.func12 (by kernel_rfl) (by kernel_rfl) rfl rfl rfl ?_; apply Exists.intro; refine And.intro (fun wc hc => ?_) ?_; (· (simp only [argsOf, anyAt, ↓reduceIte, Nat.reduceEqDiff, Array.getD_eq_getD_getElem?, List.getElem?_toArray, List.getElem?_cons_succ, List.getElem?_cons_zero, Option.getD_some]; with_reducible exact (HC1 _ (X1.out.trans hc)).out)); simp only [Act.put, List.setIfInBounds_toArray, List.set_cons_succ, List.set_cons_zero])
      | (refine AWq.call rfl Tryz.func13 (by kernel_rfl) (by kernel_rfl) rfl rfl rfl ?_; apply Exists.intro; refine And.intro (fun wc hc => ?_) ?_; (· (simp only [argsOf, anyAt, ↓reduceIte, Nat.reduceEqDiff, Array.getD_eq_getD_getElem?, List.getElem?_toArray, List.getElem?_cons_succ, List.getElem?_cons_zero, Option.getD_some]; with_reducible exact (HC2 _ (X1.out.trans hc)).out)); simp only [Act.put, List.setIfInBounds_toArray, List.set_cons_succ, List.set_cons_zero]))
    refine AWq.done rfl rfl rfl (fun w2 x2 => ?_)
    simp only [closeAny, Act.put, List.setIfInBounds_toArray, List.set_cons_succ, List.set_cons_zero]
    go_wp2_with fail
    go_ret
    exact ⟨by simp, X1.out.trans x2⟩
end Go.Proofs.YtjnjamhohnnefaaGreatDoor
