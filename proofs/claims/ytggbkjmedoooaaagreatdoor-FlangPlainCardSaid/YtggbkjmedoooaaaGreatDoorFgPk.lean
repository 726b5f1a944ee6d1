/-
  Filters' texts: flang.Print; the document's Text.
-/
import Derived.Test.YtggbkjmedoooaaaGreatDoorQdG
import Derived.Test.YtggbkjmedoooaaaGreatDoorFgCk
import Derived.Test.YtggbkjmedoooaaaGreatDoorStC
namespace Go.Proofs.YtggbkjmedoooaaaGreatDoor
set_option linter.unusedSimpArgs false
set_option linter.unusedVariables false
open Go.RowKit Go.Sort

theorem mk_size9 (l : List UInt8) : (Pa.mk l).size = l.length := by rw [← size_toList, Pa.mk_toList]
theorem joinTail_snoc (sep : List UInt8) (y : List UInt8) (l : List (List UInt8)) : Lib.joinTail sep (l ++ [y]) = Lib.joinTail sep l ++ (sep ++ y) := by
  unfold Lib.joinTail
  rw [List.map_append, List.flatten_append]
  simp
theorem lists_data (l : List ByteArray) : l.map ByteArray.toList = l.map (·.data.toList) := List.map_congr_left fun x _ => Lib.toList_data x
theorem joinC_nil : joinC [] = ⟨#[]⟩ := rfl
theorem joinC_one (x : ByteArray) : joinC [x] = x := by
  unfold joinC
  rw [List.map_cons, List.map_nil, Lib.join_one, Pa.mk_of]
theorem joinC_snoc {l : List ByteArray} (h : l ≠ []) (x : ByteArray) : joinC (l ++ [x]) = joinC l ++ ⟨#[44]⟩ ++ x := by
  match l, h with
  | a :: l, _ =>
    unfold joinC
    rw [List.cons_append, List.map_cons, List.map_append, Lib.join_cons, List.map_cons, List.map_nil, joinTail_snoc, List.map_cons, Lib.join_cons]
    apply ByteArray.ext
    rw [ByteArray.data_append, ByteArray.data_append]
    apply Array.ext'
    simp [Pa.mk, Lib.toList_data]
theorem textC_size {c : ClauseI} (hr : 0 ≤ c.lo ∧ c.lo ≤ c.hi ∧ c.hi ≤ 200) (hp : c.pre.size ≤ 40) : (textC c).size ≤ 82 := by
  have h1 := headC_size hp
  by_cases h : c.lo = 0 ∧ c.hi = 200
  · rw [textC_full h]; omega
  · rw [textC_range h, ByteArray.size_append, ByteArray.size_append, ByteArray.size_append, ByteArray.size_append]
    have e1 : (⟨#[58]⟩ : ByteArray).size = 1 := rfl
    have e2 : (⟨#[45]⟩ : ByteArray).size = 1 := rfl
    have := digK_20 c.lo.toNat (by omega)
    have := digK_20 c.hi.toNat (by omega)
    omega
theorem joinC_size (l : List ByteArray) (h : ∀ x ∈ l, x.size ≤ 82) : ∀ k, k ≤ l.length → (joinC (l.take k)).size ≤ 83 * k := by
  intro k
  induction k with
  | zero => intro _; exact Nat.le_refl _
  | succ k ih =>
    intro hk
    have h1 := ih (by omega)
    have h2 := h l[k] (List.getElem_mem (by omega))
    rw [List.take_succ_eq_append_getElem (by omega)]
    by_cases h0 : l.take k = []
    · rw [h0, List.nil_append, joinC_one]; omega
    · rw [joinC_snoc h0, ByteArray.size_append, ByteArray.size_append]
      have : (⟨#[44]⟩ : ByteArray).size = 1 := rfl
      omega
/-- Clauses whose texts are short. -/
def Okf (f : List ClauseI) : Prop := ∀ c ∈ f, (0 ≤ c.lo ∧ c.lo ≤ c.hi ∧ c.hi ≤ 200) ∧ c.pre.size ≤ 40
theorem okf_right {f : List ClauseI} (h : ∀ c ∈ f, rightC c = true) : Okf f := fun c hc => ⟨right_range (h c hc), right_light h c hc⟩
theorem nil_app (s : ByteArray) : (⟨#[]⟩ : ByteArray) ++ s = s := nil_append s
set_option maxRecDepth 100000 in
set_option maxHeartbeats 4000000 in
theorem rtext_c (w : World) (v : Value) (f : List ClauseI) (h : Sl w 3 v (f.map ClauseI.cells)) (hl : f.length ≤ 8) (hok : Okf f) : Calls Tryz.prog 11 #[v] w (Ret (.string (textF f)) w) := by
  obtain ⟨A, c, rfl, h1, h2, h3⟩ := sl_get h
  have HOne := fun W (c : ClauseI) (hc : c ∈ f) => hid (rone_c W c (hok c hc).1 (hok c hc).2)
  have HSz := hid (joinC_size (f.map textC) (fun x hx => by
    obtain ⟨c, hc, rfl⟩ := List.mem_map.1 hx
    exact textC_size (hok c hc).1 (hok c hc).2))
  have HTs := hid (fun c (hc : c ∈ f) => textC_size (hok c hc).1 (hok c hc).2)
  have H3 := hid h3
  unfold maxLen at h2
  clear h h3 hok
  by_cases hn : f.length = 0
  · have hr : Hid (textF f = ⟨#[33]⟩) := by unfold Hid textF; rw [if_pos (List.eq_nil_of_length_eq_zero hn)]; rfl
    have d0 : ((f.length : Int) == 0) = true := by simp only [beq_iff_eq]; omega
    generalize textF f = r at hr ⊢
    clear hn H3 HOne HSz HTs
    go_enter Tryz.func11, Tryz.ntmps11
    go_wp2_with fail
    go_ret
    exact ⟨by rw [hr.out]; rfl, Ext.refl _⟩
  · have hr : Hid (textF f = joinC (f.map textC)) := by unfold Hid textF; rw [if_neg (fun e => hn (by rw [e]; rfl))]
    have d0 : ((f.length : Int) == 0) = false := by simp only [beq_eq_false_iff_ne, ne_eq]; omega
    generalize textF f = r at hr ⊢
    clear hn
    go_enter Tryz.func11, Tryz.ntmps11
    go_wp2_with fail
    go_loopw [3, 4] (fun s3 s4 wr => ∃ (k : Nat) (t : ByteArray), k ≤ f.length ∧ s4 = .int .i64 k ∧ s3 = .string t ∧ t.size ≤ 700 ∧ Hid (t = joinC ((f.map textC).take k)) ∧ Hid (Ext w wr)) (fun _ s4 _ => f.length - (intOf s4).toNat)
    case atStart => exact ⟨0, ⟨#[]⟩, by omega, rfl, rfl, by show 0 ≤ _; omega, rfl, Ext.refl _⟩
    case round =>
      obtain ⟨k, t, hk, rfl, rfl, ht, hT, hE⟩ := hrel
      by_cases hlt : k < f.length
      · have e1 : decide ((k : Int) < f.length) = true := decide_eq_true (by omega)
        have e1' : decide (k < f.length) = true := decide_eq_true hlt
        obtain ⟨b, o, rfl, lb, hcell⟩ := H3.out (by omega)
        have c0 := hE.out.cell (hcell k hlt 0 _ rfl)
        have c1 := hE.out.cell (hcell k hlt 1 _ rfl)
        have c2 := hE.out.cell (hcell k hlt 2 _ rfl)
        rw [Nat.add_zero] at c0
        have l0 := Nat.lt_of_lt_of_le lb hE.out.size
        have HO := fun W => HOne W f[k] (List.getElem_mem hlt)
        have hts := HTs.out f[k] (List.getElem_mem hlt)
        have HTk : Hid ((f.map textC).take (k + 1) = (f.map textC).take k ++ [textC f[k]]) := by unfold Hid; rw [List.take_succ_eq_append_getElem (by simpa using hlt), List.getElem_map]
        have hs1 := HSz.out (k + 1) (by simp; omega)
        generalize f[k] = x at c0 c1 c2 HO hts HTk
        generalize textC x = tx at HO hts HTk
        rw [HTk.out] at hs1
        clear hcell lb
        by_cases h0 : 0 < k
        · have p1 : decide ((0 : Int) < k) = true := decide_eq_true (by omega)
          have p1' : decide (0 < k) = true := decide_eq_true h0
          have hne : (f.map textC).take k ≠ [] := fun e => by
            have := congrArg List.length e
            rw [List.length_take, List.length_map, List.length_nil] at this
            omega
          rw [joinC_snoc hne, ← hT.out] at hs1
          have q1 : (t ++ (⟨#[44]⟩ : ByteArray)).size ≤ 701 := by rw [ByteArray.size_append]; have : (⟨#[44]⟩ : ByteArray).size = 1 := rfl; omega
          have hT2 : Hid (t ++ ⟨#[44]⟩ ++ tx = joinC ((f.map textC).take (k + 1))) := by unfold Hid; rw [HTk.out, joinC_snoc hne, ← hT.out]
          clear h0 hne HTk HTs HSz
          go_wp2_with fail
          refine ((HO _).out).mono ?_
          rintro en w3 ⟨rfl, x3⟩
          have HX := hid (hE.out.trans x3)
          clear x3
          go_wp2_with fail
          go_roundw
          case rel => exact ⟨k + 1, t ++ ⟨#[44]⟩ ++ tx, by omega, by go_num, rfl, by omega, hT2, HX⟩
          case measure => simp [intOf]; omega
        · obtain rfl : k = 0 := by omega
          simp only [Nat.zero_mul, Nat.add_zero] at c0 c1 c2
          have htn : t = ⟨#[]⟩ := hT.out
          have hT2 : Hid (t ++ tx = joinC ((f.map textC).take (0 + 1))) := by unfold Hid; rw [HTk.out, List.take_zero, List.nil_append, joinC_one, htn, nil_app]
          have hs2 : (t ++ tx).size ≤ 700 := by rw [htn, nil_app]; omega
          clear h0 HTk HTs HSz htn hs1
          go_wp2_with fail
          refine ((HO _).out).mono ?_
          rintro en w3 ⟨rfl, x3⟩
          have HX := hid (hE.out.trans x3)
          clear x3
          go_wp2_with fail
          go_roundw
          case rel => exact ⟨0 + 1, t ++ tx, by omega, by go_num, rfl, hs2, hT2, HX⟩
          case measure => simp [intOf]; omega
      · obtain rfl : k = f.length := by omega
        have e1 : decide ((f.length : Int) < f.length) = false := decide_eq_false (by omega)
        have e1' : decide (f.length < f.length) = false := decide_eq_false (by omega)
        rw [List.take_of_length_le (by simp)] at hT
        clear HOne HSz HTs H3
        go_wp2_with fail
        go_ret
        exact ⟨by rw [hr.out, ← hT.out]; rfl, hE.out⟩
set_option maxRecDepth 100000 in
set_option maxHeartbeats 8000000 in
theorem print_ok (w : World) (v : Value) (f : List ClauseI) (m : Int) (hm : w.cell? ⟨0, 0, none⟩ = some (.int .i64 m)) (h : Sl w 3 v (f.map ClauseI.cells)) (hok : checkF f = 0) : Calls Tryz.prog 8 #[v] w (Ret (.tuple #[.string (textF f), .int .i64 0]) w) := by
  obtain ⟨hrt, hl⟩ := checkF_right.1 hok
  have hokf := okf_right hrt
  have HCk := hid (fcheckM_c w v f m hm h (fun c hc => by have := (hokf c hc).2; omega))
  rw [hok] at HCk
  obtain ⟨A, c, rfl, h1, h2, h3⟩ := sl_get h
  have HOne := fun W (c : ClauseI) (hc : c ∈ f) => hid (one_c W c (hokf c hc).1 (hokf c hc).2)
  have HSz := hid (joinC_size (f.map textC) (fun x hx => by
    obtain ⟨c, hc, rfl⟩ := List.mem_map.1 hx
    exact textC_size (hokf c hc).1 (hokf c hc).2) f.length (by simp))
  rw [List.take_of_length_le (by simp)] at HSz
  have H3 := hid h3
  unfold maxLen at h2
  clear h h3 hok hokf hrt hm
  by_cases hn : f.length = 0
  · have hr : Hid (textF f = ⟨#[33]⟩) := by unfold Hid textF; rw [if_pos (List.eq_nil_of_length_eq_zero hn)]; rfl
    have d0 : ((f.length : Int) == 0) = true := by simp only [beq_iff_eq]; omega
    generalize textF f = r at hr ⊢
    clear hn H3 HOne HSz
    go_enter Tryz.func8, Tryz.ntmps8
    go_wp2_with fail
    refine (HCk.out).mono ?_
    rintro en w1 ⟨rfl, x1⟩
    have HX := hid x1
    clear x1
    go_wp2_with fail
    go_ret2
    exact ⟨by rw [hr.out]; rfl, HX.out⟩
  · have hr : Hid (textF f = joinC (f.map textC)) := by unfold Hid textF; rw [if_neg (fun e => hn (by rw [e]; rfl))]
    have d0 : ((f.length : Int) == 0) = false := by simp only [beq_eq_false_iff_ne, ne_eq]; omega
    have HPos : Hid (0 < f.length) := by unfold Hid; omega
    generalize textF f = r at hr ⊢
    clear hn
    go_enter Tryz.func8, Tryz.ntmps8
    go_wp2_with fail
    refine (HCk.out).mono ?_
    rintro en w1 ⟨rfl, x1⟩
    have HX := hid x1
    clear x1 HCk
    go_wp2_with fail
    go_loopw [5, 18] (fun s5 s18 wr => ∃ (k : Nat) (ov : Value), ov = s5 ∧ k ≤ f.length ∧ s18 = .int .i64 k ∧ Hid (Ext w1 wr) ∧ Hid (wr.ownsRow w1.heap.size 9 1 ov ((f.take k).map textC).length (((f.take k).map textC).map strC).flatten)) (fun _ s18 _ => f.length - (intOf s18).toNat)
    case atStart => exact ⟨0, _, rfl, by omega, rfl, Ext.refl _, ownsRow_nil _ _ _ _⟩
    case round =>
      obtain ⟨k, ov, rfl, hk, rfl, hE, hO⟩ := hrel
      have HXr := hid (HX.out.trans hE.out)
      by_cases hlt : k < f.length
      · have e1 : decide ((k : Int) < f.length) = true := decide_eq_true (by omega)
        have e1' : decide (k < f.length) = true := decide_eq_true hlt
        obtain ⟨b, o, rfl, lb, hcell⟩ := H3.out (by omega)
        have c0 := HXr.out.cell (hcell k hlt 0 _ rfl)
        have c1 := HXr.out.cell (hcell k hlt 1 _ rfl)
        have c2 := HXr.out.cell (hcell k hlt 2 _ rfl)
        rw [Nat.add_zero] at c0
        have l0 := Nat.lt_of_lt_of_le lb HXr.out.size
        have HO := fun W => HOne W f[k] (List.getElem_mem hlt)
        have HTk : Hid ((f.take (k + 1)).map textC = (f.take k).map textC ++ [textC f[k]]) := by unfold Hid; rw [List.take_succ_eq_append_getElem hlt, List.map_append]; rfl
        have hal : ((f.take k).map textC).length ≤ 8 := by rw [List.length_map, List.length_take]; omega
        generalize f[k] = x at c0 c1 c2 HO HTk
        generalize textC x = tx at HO HTk
        generalize (f.take k).map textC = acc at hO HTk hal
        have hE1 := Ext.alloc wr (.cells #[.string x.pre, .int .i64 x.lo, .int .i64 x.hi] 42)
        have HE1 := hid (hE.out.trans hE1)
        have HO1 := hid (ownsRow_ext hO.out hE1)
        clear hcell lb HXr hE1 hE hO
        go_wp2_with fail
        generalize wr.alloc (.cells #[.string x.pre, .int .i64 x.lo, .int .i64 x.hi] 42) = w2 at HE1 HO1 ⊢
        refine ((HO _).out).mono ?_
        rintro en w3 ⟨rfl, x3⟩
        have HE3 := hid (HE1.out.trans x3)
        have HO3 := hid (ownsRow_ext HO1.out x3)
        clear x3 HE1 HO1
        obtain ⟨v', w5, hrun, ho5, hk5, _⟩ := app_one (P := Tryz.prog) str_elem str_coded HO3.out HE3.out.size tx (by omega) (by omega)
        simp only [strC] at hrun
        have HE5 : Hid (Ext w1 w5) := hk5.toExt HE3.out (fun q hq => (row_block HO3.out q hq).1)
        have HO5 : Hid (w5.ownsRow w1.heap.size 9 1 v' ((f.take (k + 1)).map textC).length (((f.take (k + 1)).map textC).map strC).flatten) := by
          unfold Hid
          rw [HTk.out]
          exact ho5
        clear ho5 hk5 HO3 HTk
        go_wp2_with (at_builtin; refine wpList_app rfl (.tmp 22) (.tmp 25) _ _ rfl rfl rfl hrun ?_)
        go_roundw
        case rel => exact ⟨k + 1, _, rfl, by omega, by go_num, HE5, HO5⟩
        case measure => simp [intOf]; omega
      · obtain rfl : k = f.length := by omega
        have e1 : decide ((f.length : Int) < f.length) = false := decide_eq_false (by omega)
        have e1' : decide (f.length < f.length) = false := decide_eq_false (by omega)
        rw [List.take_length] at hO
        have hsl := sl_of_row (e := 9) (base := w1.heap.size) (str_coded.sizes (f.map textC)) (by rw [List.length_map]; exact hO.out)
        have hpos := HPos.out
        obtain ⟨A7, c7, hv7, g7, g8, g9⟩ := sl_get hsl
        obtain ⟨b7, o7, rfl, lb7, hc7⟩ := g9 (by simpa using hpos)
        have HJ := hid (Tryz.strings_Join b7 o7 c7 (f.map textC) ⟨#[44]⟩ wr (fun j x hx => by
          obtain ⟨hj, rfl⟩ := List.getElem?_eq_some_iff.1 hx
          have := hc7 j hj 0 (.string (f.map textC)[j]) rfl
          simpa using this) lb7 (by simp; omega) g7 (by
          have h9 := HSz.out
          have e9 : (joinC (f.map textC)).size = (Lib.join ((f.map textC).map (·.data.toList)) [44]).length := by
            unfold joinC
            rw [mk_size9]
            rw [lists_data]
          show (Lib.join ((f.map textC).map (·.data.toList)) [44]).length ≤ _
          omega))
        have e9 : (⟨(Lib.join ((f.map textC).map (·.data.toList)) (⟨#[44]⟩ : ByteArray).data.toList).toArray⟩ : ByteArray) = joinC (f.map textC) := by
          unfold joinC Pa.mk
          rw [lists_data]
        rw [e9] at HJ
        rw [List.length_map] at HJ hv7
        generalize joinC (f.map textC) = tt at HJ hr
        subst hv7
        clear HOne HSz H3 hsl g9 hc7 hO HPos hpos
        go_wp2_with fail
        refine (HJ.out).mono ?_
        rintro en w3 ⟨rfl, x3⟩
        have HX3 := hid ((HX.out.trans hE.out).trans (Ext.of_below x3))
        clear x3
        go_wp2_with fail
        go_ret2
        exact ⟨by rw [hr.out]; rfl, HX3.out⟩
set_option maxRecDepth 100000 in
set_option maxHeartbeats 4000000 in
theorem print_no (w : World) (v : Value) (f : List ClauseI) (m : Int) (hm : w.cell? ⟨0, 0, none⟩ = some (.int .i64 m)) (h : Sl w 3 v (f.map ClauseI.cells)) (hs : ∀ c ∈ f, c.pre.size ≤ 90000) (hok : checkF f ≠ 0) : Calls Tryz.prog 8 #[v] w (Ret (.tuple #[.string ⟨#[]⟩, .int .i64 (checkF f)]) w) := by
  have HCk := hid (fcheckM_c w v f m hm h hs)
  have d3 : (checkF f != 0) = true := by simp only [bne_iff_ne, ne_eq]; exact hok
  have d4 : (checkF f == 0) = false := by simp only [beq_eq_false_iff_ne, ne_eq]; exact hok
  obtain ⟨A, c, rfl, _⟩ := sl_get h
  generalize checkF f = e at HCk d3 d4 ⊢
  clear h hs hok hm
  go_enter Tryz.func8, Tryz.ntmps8
  go_wp2_with fail
  refine (HCk.out).mono ?_
  rintro en w1 ⟨rfl, x1⟩
  have HX := hid x1
  clear x1
  go_wp2_with fail
  go_ret2
  exact ⟨rfl, HX.out⟩
end Go.Proofs.YtggbkjmedoooaaaGreatDoor
