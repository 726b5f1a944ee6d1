/-
  flang.Parse.
  The document's Clause and Parse of chapter 11.
-/
import Derived.Test.YtggbkjmedoooaaaGreatDoorQdF
import Derived.Test.YtggbkjmedoooaaaGreatDoorFgCk
import Derived.Test.YtggbkjmedoooaaaGreatDoorQdD
import Derived.Test.YtggbkjmedoooaaaGreatDoorAwT
namespace Go.Proofs.YtggbkjmedoooaaaGreatDoor
set_option linter.unusedSimpArgs false
set_option linter.unusedVariables false
open Go.RowKit Go.Sort

noncomputable def outG (l : List ByteArray) : List ClauseI := l.map fun x => (clG x).1
noncomputable def okG (l : List ByteArray) : Bool := l.all fun x => (clG x).2
theorem allR_some : ∀ {l : List ByteArray}, okG l = true → (∀ c ∈ outG l, rightC c = true) → allR l = some (outG l)
  | [], _, _ => rfl
  | x :: l, h, hr => by
    unfold okG at h
    rw [List.all_cons, Bool.and_eq_true] at h
    have h1 := clG_right h.1 (hr _ (by simp [outG]))
    have h2 := allR_some (l := l) h.2 (fun c hc => hr c (by unfold outG at hc ⊢; simp only [List.map_cons, List.mem_cons]; exact .inr hc))
    unfold allR
    rw [h1, h2]; rfl
theorem allR_ok : ∀ {l : List ByteArray} {f : List ClauseI}, allR l = some f → okG l = true ∧ f = outG l
  | [], f, h => by
    simp only [allR, Option.some.injEq] at h
    subst h
    exact ⟨rfl, rfl⟩
  | x :: l, f, h => by
    unfold allR at h
    cases h1 : clR x with
    | none => rw [h1] at h; simp at h
    | some c =>
      cases h2 : allR l with
      | none => rw [h1, h2] at h; simp at h
      | some g =>
        rw [h1, h2] at h
        simp only [Option.some.injEq] at h
        subst h
        obtain ⟨a1, a2⟩ := allR_ok h2
        obtain ⟨b1, b2, _⟩ := clR_clG h1
        refine ⟨by unfold okG at a1 ⊢; rw [List.all_cons, b1, a1]; rfl, by unfold outG at a2 ⊢; rw [List.map_cons, b2, a2]⟩
/-- What a text is as a filter, by what flang reads. -/
theorem parR_go {s : ByteArray} (hs : s ≠ Pa.mk [33]) : parR s = if okG (C44.spB s) = true ∧ checkF (outG (C44.spB s)) = 0 then some (outG (C44.spB s)) else none := by
  unfold parR
  rw [if_neg hs]
  by_cases h : okG (C44.spB s) = true ∧ checkF (outG (C44.spB s)) = 0
  · rw [if_pos h]
    obtain ⟨h1, h2⟩ := checkF_right.1 h.2
    rw [allR_some h.1 h1]
    simp only [if_pos h2]
  · rw [if_neg h]
    cases ha : allR (C44.spB s) with
    | none => rfl
    | some f =>
      obtain ⟨a1, a2⟩ := allR_ok ha
      have a3 := (allR_right ha).1
      dsimp only
      split
      · rename_i hl
        exact absurd ⟨a1, checkF_right.2 (by rw [← a2]; exact ⟨a3, hl⟩)⟩ h
      · rfl
theorem okG_take {l : List ByteArray} {k : Nat} (h : k < l.length) (h1 : okG (l.take k) = true) (h2 : (clG l[k]).2 = true) : okG (l.take (k + 1)) = true := by
  unfold okG at h1 ⊢
  rw [List.take_succ_eq_append_getElem h, List.all_append, h1]
  simp [h2]
theorem okG_no {l : List ByteArray} {k : Nat} (h : k < l.length) (h2 : (clG l[k]).2 = false) : okG l = false := by
  unfold okG
  rw [List.all_eq_false]
  exact ⟨l[k], List.getElem_mem h, by simp [h2]⟩
theorem outG_take {l : List ByteArray} {k : Nat} (h : k < l.length) : outG (l.take (k + 1)) = outG (l.take k) ++ [(clG l[k]).1] := by
  unfold outG
  rw [List.take_succ_eq_append_getElem h, List.map_append]; rfl
theorem clG_pre (x : ByteArray) : (clG x).1.pre.size ≤ x.size := by
  have h := cut_len x.toList 58
  have hs : ∀ p : ByteArray, (starP p).size ≤ p.size := fun p => by
    unfold starP
    split
    · show 0 ≤ _; omega
    · exact Nat.le_refl _
  have h2 := hs (Pa.mk (Lib.cut x.toList [58]).1)
  rw [mk_size] at h2
  rw [size_toList] at h
  unfold clG
  dsimp only
  split <;> (dsimp only; omega)
set_option maxRecDepth 100000 in
set_option maxHeartbeats 1000000 in
theorem parse_big (w : World) (s : ByteArray) (hs : 512 < s.size) : Calls Tryz.prog 10 #[.string s] w (Ret (.tuple #[.slice none 0 0, .int .i64 4]) w) := by
  have d1 : decide ((512 : Int) < s.size) = true := decide_eq_true (by omega)
  have d1' : decide (512 < s.size) = true := decide_eq_true hs
  clear hs
  go_enter Tryz.func10, Tryz.ntmps10
  go_wp2_with fail
  go_step3
  go_wp2_with fail
  rw [Exit.noGoto_ret]
  go_ret2
  exact ⟨rfl, Ext.refl _⟩
set_option maxRecDepth 100000 in
set_option maxHeartbeats 1000000 in
theorem parse_bang (w : World) : Calls Tryz.prog 10 #[.string (Pa.mk [33])] w (Ret (.tuple #[.slice none 0 0, .int .i64 0]) w) := by
  unfold Pa.mk
  go_enter Tryz.func10, Tryz.ntmps10
  go_wp2_with fail
  go_step3
  go_wp2_with fail
  rw [Exit.noGoto_ret]
  go_ret2
  exact ⟨rfl, Ext.refl _⟩
set_option maxRecDepth 100000 in
set_option maxHeartbeats 8000000 in
theorem parse_main (w : World) (s : ByteArray) (m : Int) (hm : w.cell? ⟨0, 0, none⟩ = some (.int .i64 m)) (hs : s.size ≤ 512) (hne : s ≠ Pa.mk [33]) : Calls Tryz.prog 10 #[.string s] w (fun en w' => Ext w w' ∧ ((parR s = none ∧ en = .returned (.tuple #[.slice none 0 0, .int .i64 14])) ∨ (∃ f v, parR s = some f ∧ en = .returned (.tuple #[v, .int .i64 0]) ∧ Sl w' 3 v (f.map ClauseI.cells)))) := by
  have HPar := hid (parR_go hne)
  have HS := hid (Tryz.strings_Split s ⟨#[44]⟩ m w (by omega) hm (by rw [show (⟨#[44]⟩ : ByteArray).size = 1 from rfl]; omega))
  rw [C44.splitB_spB, C44.countB_spB] at HS
  have hlen := C44.spB_length s
  have HParts := hid (C44.spB_parts s)
  have HM := hid hm
  have hq : (s.toList == [33]) = false := by
    have := beq_toList s (Pa.mk [33])
    rw [Pa.mk_toList, decide_eq_false hne] at this
    exact this
  have d1 : decide ((512 : Int) < s.size) = false := decide_eq_false (by omega)
  have d1' : decide (512 < s.size) = false := decide_eq_false (by omega)
  generalize C44.spB s = l at HPar HS hlen HParts
  generalize parR s = r at HPar ⊢
  have HB := hid (Blk.new w 9 (l.map Value.string).toArray)
  have HX := hid (Ext.alloc w (.cells (l.map Value.string).toArray 9))
  clear hne hm
  go_enter Tryz.func10, Tryz.ntmps10
  go_wp2_with fail
  go_step3
  go_wp2_with fail
  go_step3
  go_wp2_with (go_at_call 20; refine (HS.out).mono ?_; rintro e w' ⟨rfl, rfl⟩)
  generalize w.alloc (.cells (l.map Value.string).toArray 9) = w0 at HB HX ⊢
  go_loopw [4, 5, 18] (fun s4 s5 s18 wr => ∃ (k : Nat) (ov : Value), ov = s4 ∧ k ≤ l.length ∧ s18 = .int .i64 k ∧ s5 = .bool true ∧ Hid (Ext w0 wr) ∧ Hid (okG (l.take k) = true) ∧ Hid (wr.ownsRow w0.heap.size 42 3 ov (outG (l.take k)).length ((outG (l.take k)).map ClauseI.cells).flatten)) (fun _ _ s18 _ => l.length - (intOf s18).toNat)
  case atStart => exact ⟨0, _, rfl, by omega, rfl, rfl, Ext.refl _, rfl, ownsRow_nil _ _ _ _⟩
  case round =>
    obtain ⟨k, ov, rfl, hk, rfl, rfl, hE, hOk, hO⟩ := hrel
    have HXr := hid (HX.out.trans hE.out)
    by_cases hlt : k < l.length
    · have e1 : decide ((k : Int) < l.length) = true := decide_eq_true (by omega)
      have e1' : decide (k < l.length) = true := decide_eq_true hlt
      have c0 : wr.cell? ⟨w.heap.size, k, none⟩ = some (.string l[k]) := (HB.out.ext hE.out).cell (by simp [hlt])
      have l0 := (HB.out.ext hE.out).lt
      have hx := HParts.out l[k] (List.getElem_mem hlt)
      have HCl := fun W (hW : Ext w W) => hid (clause_c W l[k] m (hW.cell HM.out) (by omega))
      have HYes := hid (fun h => okG_take hlt hOk.out h)
      have HNo := hid (fun h => okG_no hlt h)
      have HTk := hid (outG_take hlt)
      have hol : (outG (l.take k)).length ≤ 513 := by unfold outG; rw [List.length_map, List.length_take]; omega
      generalize outG (l.take k) = acc at hO HTk hol
      generalize l[k] = x at c0 HCl HYes HNo HTk
      generalize clG x = cb at HCl HYes HNo HTk
      obtain ⟨cl, b⟩ := cb
      dsimp only at HCl HYes HNo HTk
      unfold ClauseI.val at HCl
      clear hx hOk
      go_wp2_with fail
      refine ((HCl _ HXr.out).out).mono ?_
      rintro en w3 ⟨rfl, x3⟩
      have HX3 := hid (HXr.out.trans x3)
      have HE3 := hid (hE.out.trans x3)
      have HO3 := hid (ownsRow_ext hO.out x3)
      clear x3 HXr hE hO HCl
      have hE4 := Ext.alloc w3 (.cells #[.string cl.pre, .int .i64 cl.lo, .int .i64 cl.hi] 42)
      cases b with
      | false =>
        have hr : Hid (r = none) := by
          unfold Hid
          rw [HPar.out, if_neg]
          rintro ⟨q, _⟩
          rw [HNo.out rfl] at q
          cases q
        have HX4 := hid (HX3.out.trans hE4)
        clear HYes HNo HTk HPar hE4 c0
        go_wp2_with fail
        rw [Exit.noGoto_ret]
        go_ret2
        exact ⟨HX4.out, .inl ⟨hr.out, rfl⟩⟩
      | true =>
        have HY := hid (HYes.out rfl)
        obtain ⟨v', w5, hrun, ho5, hk5, _⟩ := app_one (P := Tryz.prog) clause_elem clause_coded (ownsRow_ext HO3.out hE4) (HE3.out.trans hE4).size cl (by omega) (by omega)
        simp only [ClauseI.cells, World.size_alloc] at hrun
        have HE5 : Hid (Ext w0 w5) := hk5.toExt (HE3.out.trans hE4) (fun q hq => (row_block HO3.out q hq).1)
        have HO5 : Hid (w5.ownsRow w0.heap.size 42 3 v' (outG (l.take (k + 1))).length ((outG (l.take (k + 1))).map ClauseI.cells).flatten) := by
          unfold Hid
          rw [HTk.out]
          exact ho5
        clear HYes HNo HTk ho5 hk5 hE4 c0 HO3
        go_wp2_with (at_builtin; refine wpList_app rfl (.tmp 29) (.tmp 31) _ _ rfl rfl rfl hrun ?_)
        go_roundw
        case rel => exact ⟨k + 1, _, rfl, by omega, by go_num, rfl, HE5, HY, HO5⟩
        case measure => simp [intOf]; omega
    · obtain rfl : k = l.length := by omega
      have e1 : decide ((l.length : Int) < l.length) = false := decide_eq_false (by omega)
      have e1' : decide (l.length < l.length) = false := decide_eq_false (by omega)
      rw [List.take_length] at hOk hO
      have HSl := hid (sl_of_row (e := 42) (base := w0.heap.size) (clause_coded.sizes (outG l)) (by rw [List.length_map]; exact hO.out))
      have hpre : ∀ c ∈ outG l, c.pre.size ≤ 90000 := fun c hc => by
        unfold outG at hc
        obtain ⟨x, hx, rfl⟩ := List.mem_map.1 hc
        have h1 := clG_pre x
        have h2 := HParts.out x hx
        omega
      have HCk := hid (fcheckM_c wr _ (outG l) m (HXr.out.cell HM.out) HSl.out hpre)
      rw [hOk.out] at HPar
      clear hpre hO hOk hE HB
      by_cases hc : checkF (outG l) = 0
      · have hr : Hid (r = some (outG l)) := by unfold Hid; rw [HPar.out, if_pos ⟨rfl, hc⟩]
        rw [hc] at HCk
        clear hc HPar
        go_wp2_with fail
        refine (HCk.out).mono ?_
        rintro en w3 ⟨rfl, x3⟩
        have HX3 := hid (HXr.out.trans x3)
        have HS3 := hid (HSl.out.ext x3)
        clear x3 HXr HSl HCk
        go_wp2_with fail
        rw [Exit.noGoto_ret]
        go_ret2
        exact ⟨HX3.out, .inr ⟨outG l, _, hr.out, rfl, HS3.out⟩⟩
      · have hr : Hid (r = none) := by unfold Hid; rw [HPar.out, if_neg (fun q => hc q.2)]
        have d3 : (checkF (outG l) != 0) = true := by simp only [bne_iff_ne, ne_eq]; exact hc
        have d4 : (checkF (outG l) == 0) = false := by simp only [beq_eq_false_iff_ne, ne_eq]; exact hc
        generalize checkF (outG l) = e at HCk d3 d4
        clear hc HPar
        go_wp2_with fail
        refine (HCk.out).mono ?_
        rintro en w3 ⟨rfl, x3⟩
        have HX3 := hid (HXr.out.trans x3)
        clear x3 HXr HSl HCk
        go_wp2_with fail
        rw [Exit.noGoto_ret]
        go_ret2
        exact ⟨HX3.out, .inl ⟨hr.out, rfl⟩⟩
end Go.Proofs.YtggbkjmedoooaaaGreatDoor
namespace Go.Proofs.YtggbkjmedoooaaaGreatDoor
set_option linter.unusedSimpArgs false
set_option linter.unusedVariables false
open Go.RowKit Go.Sort

theorem mkR_isSome {p : ByteArray} {lo hi : Int} (hp : p.toList.isEmpty = false) : (mkR p lo hi).isSome = rightC ⟨starP p, lo, hi⟩ ∧ ∀ c', mkR p lo hi = some c' → (⟨starP p, lo, hi⟩ : ClauseI) = c' := by
  have hp' : p.toList ≠ [] := fun e => by rw [e] at hp; cases hp
  refine ⟨?_, fun c' h => ((mkR_some h).2.1).symm⟩
  unfold mkR
  rw [if_neg hp']
  cases rightC ⟨starP p, lo, hi⟩ <;> rfl
theorem mkR_empty {p : ByteArray} {lo hi : Int} (hp : p.toList.isEmpty = true) : mkR p lo hi = none := by
  unfold mkR
  rw [if_pos (List.isEmpty_iff.1 hp)]
theorem spB58_ne (s : ByteArray) : ∃ p rest, C58.spB s = p :: rest := by
  unfold C58.spB
  cases h : C58.sp s.toList with
  | nil => exact absurd h (C58.sp_ne _)
  | cons p rest => exact ⟨_, _, List.map_cons ..⟩
noncomputable def clN (p : ByteArray) : List ByteArray → Option ClauseI
  | [a, b] => mkR p (numR a) (numR b)
  | _ => none
noncomputable def clM : List ByteArray → Option ClauseI
  | [p] => mkR p 0 200
  | [p, r] => clN p (C45.spB r)
  | _ => none
theorem clR_M (s : ByteArray) : clR s = clM (C58.spB s) := by
  unfold clR
  match C58.spB s with
  | [] => rfl
  | [p] => rfl
  | [p, r] =>
    show (match C45.spB r with | [a, b] => mkR p (numR a) (numR b) | _ => none) = clN p (C45.spB r)
    match C45.spB r with
    | [] => rfl
    | [a] => rfl
    | [a, b] => rfl
    | _ :: _ :: _ :: _ => rfl
  | _ :: _ :: _ :: _ => rfl
theorem clN_empty {p : ByteArray} (he : p.toList.isEmpty = true) (l : List ByteArray) : clN p l = none := by
  match l with
  | [] => rfl
  | [a] => rfl
  | [a, b] => exact mkR_empty he
  | _ :: _ :: _ :: _ => rfl
theorem clM_empty {p : ByteArray} (he : p.toList.isEmpty = true) (l : List ByteArray) : clM (p :: l) = none := by
  match l with
  | [] => exact mkR_empty he
  | [r] => exact clN_empty he _
  | _ :: _ :: _ => rfl
theorem clN_bad {p : ByteArray} {l : List ByteArray} (h : l.length ≠ 2) : clN p l = none := by
  match l, h with
  | [], _ => rfl
  | [a], _ => rfl
  | [a, b], h => exact absurd rfl h
  | _ :: _ :: _ :: _, _ => rfl
theorem star_size (p : ByteArray) : (starP p).size ≤ p.size := by
  unfold starP
  split
  · show 0 ≤ _; omega
  · exact Nat.le_refl _
set_option maxRecDepth 100000 in
set_option maxHeartbeats 16000000 in
theorem rclause_c (w : World) (s : ByteArray) (hs : s.size ≤ 10000) : Calls Tryz.prog 24 #[.string s] w (fun en w' => Ext w w' ∧ ∃ c : ClauseI, en = .returned (.tuple #[.agg #[.string c.pre, .int .i64 c.lo, .int .i64 c.hi], .bool (clR s).isSome]) ∧ ∀ c', clR s = some c' → c = c') := by
  have HSp := fun W => hid (C58.rsplit_c s W (by omega))
  have HPs := hid (C58.spB_parts s)
  obtain ⟨p, rest, hl⟩ := spB58_ne s
  have hpl : p.size ≤ s.size := HPs.out p (by rw [hl]; simp)
  have hlen := C58.spB_length s
  have HClR := hid (clR_M s)
  rw [hl] at HSp HPs hlen HClR
  have hq : (p.toList == [42]) = decide (p = Pa.mk [42]) := by
    have := beq_toList p (Pa.mk [42])
    rwa [Pa.mk_toList] at this
  generalize clR s = r at HClR ⊢
  clear hl
  have HR := hid (Blk.new w 42 #[.string ⟨#[]⟩, .int .i64 0, .int .i64 0])
  have HX := hid (Ext.alloc w (.cells #[.string ⟨#[]⟩, .int .i64 0, .int .i64 0] 42))
  go_enter Tryz.func24, Tryz.ntmps24
  go_wp2_with fail
  generalize w.alloc (.cells #[.string ⟨#[]⟩, .int .i64 0, .int .i64 0] 42) = w0 at HR HX ⊢
  refine ((HSp _).out).mono ?_
  rintro en w1 ⟨v, rfl, hv, x1⟩
  have HR1 := hid (HR.out.ext x1)
  have HX1 := hid (HX.out.trans x1)
  obtain ⟨A, c, rfl, g1, g2, g3⟩ := sl_get (code := fun s : ByteArray => [Value.string s]) hv
  obtain ⟨b, o, rfl, lb, hcell⟩ := g3 (by simp)
  have c0 : w1.cell? ⟨b, o, none⟩ = some (.string p) := hcell 0 (by simp) 0 _ rfl
  have HCell := hid hcell
  clear x1 HR HX HSp hv g3 hcell
  unfold maxLen at g2
  have r0 := HR1.out.cell (i := 0) (v := .string ⟨#[]⟩) rfl
  have r1 := HR1.out.cell (i := 1) (v := .int .i64 0) rfl
  have r2 := HR1.out.cell (i := 2) (v := .int .i64 0) rfl
  have t0 := HR1.out.frozen 0
  have t1 := HR1.out.frozen 1
  have t2 := HR1.out.frozen 2
  have rl := HR1.out.lt
  cases he : p.toList.isEmpty with
  | true =>
    have hr : Hid (r = none) := by unfold Hid; rw [HClR.out]; exact clM_empty he rest
    clear HClR HCell
    go_wp2_with fail
    have HF : Hid (Blk ((((w1.setCell ⟨w.heap.size, 0, none⟩ (.string p)).setCell ⟨w.heap.size, 1, none⟩ (.int .i64 0)).setCell ⟨w.heap.size, 2, none⟩ (.int .i64 200)).alloc (.cells #[.string p, .int .i64 0, .int .i64 200] 42)) w.heap.size 42 #[.string p, .int .i64 0, .int .i64 200]) := (((HR1.out.set 0 (.string p)).set 1 (.int .i64 0)).set 2 (.int .i64 200)).alloc _
    refine bodyPost_ret (results_cell_row_tmp rfl _ _ w.heap.size 42 _ (0, 0) _ rfl HF.out Tryz.underlying42 rfl (show (Tryz.prog.info? 42).map (·.size) = some 3 by kernel_rfl)) rfl ?_
    refine ⟨(((HX1.out.setCell' (p := ⟨w.heap.size, 0, none⟩) (Nat.le_refl _) _).setCell' (p := ⟨w.heap.size, 1, none⟩) (Nat.le_refl _) _).setCell' (p := ⟨w.heap.size, 2, none⟩) (Nat.le_refl _) _).alloc' _, ⟨p, 0, 200⟩, ?_, ?_⟩
    · rw [hr.out]; rfl
    · intro c' h
      rw [hr.out] at h
      cases h
  | false =>
    match rest with
    | [] =>
      have hr := hid (show r = mkR p 0 200 from HClR.out)
      have hmk := mkR_isSome (p := p) (lo := 0) (hi := 200) he
      rw [← hr.out] at hmk
      have HSome := hid hmk.1
      have HIs := hid hmk.2
      have HRt := fun W => hid (rrightC_c W ⟨starP p, 0, 200⟩ (by have := star_size p; show (starP p).size ≤ 90000; omega))
      unfold ClauseI.val at HRt
      dsimp only at HRt
      clear hr hmk HCell HClR
      by_cases hst : p = Pa.mk [42]
      · rw [decide_eq_true hst] at hq
        have HS : Hid (starP p = ⟨#[]⟩) := by unfold Hid starP; rw [if_pos hst]
        rw [HS.out] at HSome
        clear hst
        go_wp2_with fail
        have HR2 := hid (HR1.out.alloc (.cells #[.string ⟨#[]⟩, .int .i64 0, .int .i64 200] 42))
        have HX2 := hid (HX1.out.alloc' (.cells #[.string ⟨#[]⟩, .int .i64 0, .int .i64 200] 42))
        have HU2 := hid (Blk.new w1 42 #[.string ⟨#[]⟩, .int .i64 0, .int .i64 200])
        clear hq HR1 HX1 r0 r1 r2 t0 t1 t2 rl c0
        generalize w1.alloc (.cells #[.string ⟨#[]⟩, .int .i64 0, .int .i64 200] 42) = w2 at HR2 HX2 HU2 ⊢
        generalize w1.heap.size = g at HU2 ⊢
        rw [HS.out] at HRt HIs
        have v0 := HU2.out.cell (i := 0) (v := .string ⟨#[]⟩) rfl
        have v1 := HU2.out.cell (i := 1) (v := .int .i64 0) rfl
        have v2 := HU2.out.cell (i := 2) (v := .int .i64 200) rfl
        have vl := HU2.out.lt
        refine wp_region_tail (pre := ?pre1) (tl := ?tl1) 3 ?hpre1 ?htl1 (of_decide_eq_true (by kernel_rfl)) (by kernel_rfl) (by kernel_rfl) (by kernel_rfl) (by kernel_rfl) ?_
        case hpre1 => (simp only [List.take_succ_cons, List.take_zero]; first | done | exact rfl)
        case htl1 => (simp only [List.drop_succ_cons, List.drop_zero]; first | done | exact rfl)
        repeat (first
          | (refine AWq.val rfl rfl rfl rfl (fun K hK => ?_); go_big_quiet_op; refine hK _ ?_; clear hK K)
          | (refine AWq.skip rfl rfl rfl ?_; simp only [Act.put, List.setIfInBounds_toArray, List.set_cons_succ, List.set_cons_zero])
          | (refine AWq.call rfl Tryz.func41 (by kernel_rfl) (by kernel_rfl) rfl rfl rfl ?_; apply Exists.intro; refine And.intro (fun wc hc => ?_) ?_; (· (simp only [argsOf, anyAt, ↓reduceIte, Nat.reduceEqDiff, Array.getD_eq_getD_getElem?, List.getElem?_toArray, List.getElem?_cons_succ, List.getElem?_cons_zero, Option.getD_some]; with_reducible exact (HRt _).out)); simp only [Act.put, List.setIfInBounds_toArray, List.set_cons_succ, List.set_cons_zero]))
        refine AWq.tail rfl rfl rfl (fun w8 x8 => ?_)
        simp only [closeAny, Act.put, List.setIfInBounds_toArray, List.set_cons_succ, List.set_cons_zero]
        have HR8 := hid (HR2.out.ext x8)
        have HX8 := hid (HX2.out.trans x8)
        clear v0 v1 v2 vl x8
        have r0 := HR8.out.cell (i := 0) (v := .string ⟨#[]⟩) rfl
        have r1 := HR8.out.cell (i := 1) (v := .int .i64 0) rfl
        have r2 := HR8.out.cell (i := 2) (v := .int .i64 0) rfl
        have t0 := HR8.out.frozen 0
        have t1 := HR8.out.frozen 1
        have t2 := HR8.out.frozen 2
        have rl := HR8.out.lt
        go_wp2_with fail
        have HF : Hid (Blk _ w.heap.size 42 #[.string ⟨#[]⟩, .int .i64 0, .int .i64 200]) := ((HR8.out.set 0 (.string ⟨#[]⟩)).set 1 (.int .i64 0)).set 2 (.int .i64 200)
        refine bodyPost_ret (results_cell_row_tmp rfl _ _ w.heap.size 42 _ (0, 0) _ rfl HF.out Tryz.underlying42 rfl (show (Tryz.prog.info? 42).map (·.size) = some 3 by kernel_rfl)) rfl ?_
        refine ⟨((HX8.out.setCell' (p := ⟨w.heap.size, 0, none⟩) (Nat.le_refl _) _).setCell' (p := ⟨w.heap.size, 1, none⟩) (Nat.le_refl _) _).setCell' (p := ⟨w.heap.size, 2, none⟩) (Nat.le_refl _) _, ⟨⟨#[]⟩, 0, 200⟩, ?_, ?_⟩
        · rw [HSome.out]; rfl
        · intro c' h
          rw [← HIs.out c' h]
      · rw [decide_eq_false hst] at hq
        have HS : Hid (starP p = p) := by unfold Hid starP; rw [if_neg hst]
        rw [HS.out] at HSome
        clear hst
        go_wp2_with fail
        have HR2 := hid (HR1.out.alloc (.cells #[.string p, .int .i64 0, .int .i64 200] 42))
        have HX2 := hid (HX1.out.alloc' (.cells #[.string p, .int .i64 0, .int .i64 200] 42))
        have HU2 := hid (Blk.new w1 42 #[.string p, .int .i64 0, .int .i64 200])
        clear hq HR1 HX1 r0 r1 r2 t0 t1 t2 rl c0
        generalize w1.alloc (.cells #[.string p, .int .i64 0, .int .i64 200] 42) = w2 at HR2 HX2 HU2 ⊢
        generalize w1.heap.size = g at HU2 ⊢
        rw [HS.out] at HRt HIs
        have v0 := HU2.out.cell (i := 0) (v := .string p) rfl
        have v1 := HU2.out.cell (i := 1) (v := .int .i64 0) rfl
        have v2 := HU2.out.cell (i := 2) (v := .int .i64 200) rfl
        have vl := HU2.out.lt
        refine wp_region_tail (pre := ?pre2) (tl := ?tl2) 3 ?hpre2 ?htl2 (of_decide_eq_true (by kernel_rfl)) (by kernel_rfl) (by kernel_rfl) (by kernel_rfl) (by kernel_rfl) ?_
        case hpre2 => (simp only [List.take_succ_cons, List.take_zero]; first | done | exact rfl)
        case htl2 => (simp only [List.drop_succ_cons, List.drop_zero]; first | done | exact rfl)
        repeat (first
          | (refine AWq.val rfl rfl rfl rfl (fun K hK => ?_); go_big_quiet_op; refine hK _ ?_; clear hK K)
          | (refine AWq.skip rfl rfl rfl ?_; simp only [Act.put, List.setIfInBounds_toArray, List.set_cons_succ, List.set_cons_zero])
          | (refine AWq.call rfl Tryz.func41 (by kernel_rfl) (by kernel_rfl) rfl rfl rfl ?_; apply Exists.intro; refine And.intro (fun wc hc => ?_) ?_; (· (simp only [argsOf, anyAt, ↓reduceIte, Nat.reduceEqDiff, Array.getD_eq_getD_getElem?, List.getElem?_toArray, List.getElem?_cons_succ, List.getElem?_cons_zero, Option.getD_some]; with_reducible exact (HRt _).out)); simp only [Act.put, List.setIfInBounds_toArray, List.set_cons_succ, List.set_cons_zero]))
        refine AWq.tail rfl rfl rfl (fun w8 x8 => ?_)
        simp only [closeAny, Act.put, List.setIfInBounds_toArray, List.set_cons_succ, List.set_cons_zero]
        have HR8 := hid (HR2.out.ext x8)
        have HX8 := hid (HX2.out.trans x8)
        clear v0 v1 v2 vl x8
        have r0 := HR8.out.cell (i := 0) (v := .string ⟨#[]⟩) rfl
        have r1 := HR8.out.cell (i := 1) (v := .int .i64 0) rfl
        have r2 := HR8.out.cell (i := 2) (v := .int .i64 0) rfl
        have t0 := HR8.out.frozen 0
        have t1 := HR8.out.frozen 1
        have t2 := HR8.out.frozen 2
        have rl := HR8.out.lt
        go_wp2_with fail
        have HF : Hid (Blk _ w.heap.size 42 #[.string p, .int .i64 0, .int .i64 200]) := ((HR8.out.set 0 (.string p)).set 1 (.int .i64 0)).set 2 (.int .i64 200)
        refine bodyPost_ret (results_cell_row_tmp rfl _ _ w.heap.size 42 _ (0, 0) _ rfl HF.out Tryz.underlying42 rfl (show (Tryz.prog.info? 42).map (·.size) = some 3 by kernel_rfl)) rfl ?_
        refine ⟨((HX8.out.setCell' (p := ⟨w.heap.size, 0, none⟩) (Nat.le_refl _) _).setCell' (p := ⟨w.heap.size, 1, none⟩) (Nat.le_refl _) _).setCell' (p := ⟨w.heap.size, 2, none⟩) (Nat.le_refl _) _, ⟨p, 0, 200⟩, ?_, ?_⟩
        · rw [HSome.out]; rfl
        · intro c' h
          rw [← HIs.out c' h]
    | [x] =>
      have hx := HPs.out x (by simp)
      have c1 : w1.cell? ⟨b, o + 1, none⟩ = some (.string x) := HCell.out 1 (by simp) 0 _ rfl
      have HSq := fun W => hid (C45.rsplit_c x W (by omega))
      have HQs := hid (C45.spB_parts x)
      have HClN := hid (show r = clN p (C45.spB x) from HClR.out)
      have hql := C45.spB_length x
      generalize C45.spB x = q at HSq HQs HClN hql
      clear HCell HClR
      by_cases hst : p = Pa.mk [42]
      · rw [decide_eq_true hst] at hq
        have HS : Hid (starP p = ⟨#[]⟩) := by unfold Hid starP; rw [if_pos hst]
        clear hst
        go_wp2_with fail
        have HR2 := hid (HR1.out.alloc (.cells #[.string ⟨#[]⟩, .int .i64 0, .int .i64 200] 42))
        have HX2 := hid (HX1.out.alloc' (.cells #[.string ⟨#[]⟩, .int .i64 0, .int .i64 200] 42))
        have HU2 := hid (Blk.new w1 42 #[.string ⟨#[]⟩, .int .i64 0, .int .i64 200])
        have HG : Hid (w.heap.size < w1.heap.size) := HR1.out.lt
        clear hq HR1 HX1 r0 r1 r2 t0 t1 t2 rl c0 c1
        generalize w1.alloc (.cells #[.string ⟨#[]⟩, .int .i64 0, .int .i64 200] 42) = w2 at HR2 HX2 HU2 ⊢
        generalize w1.heap.size = g at HU2 HG ⊢
        refine ((HSq _).out).mono ?_
        rintro en w3 ⟨v3, rfl, hv3, x3⟩
        have HR3 := hid (HR2.out.ext x3)
        have HX3 := hid (HX2.out.trans x3)
        have HU3 := hid (HU2.out.ext x3)
        clear x3 HR2 HX2 HU2 HSq
        have hne : w.heap.size ≠ g := by have := HG.out; omega
        have hne' : g ≠ w.heap.size := fun e => hne e.symm
        obtain ⟨A3, c3, rfl, i1, i2, i3⟩ := sl_get (code := fun s : ByteArray => [Value.string s]) hv3
        have HI3 := hid i3
        clear hv3 i3
        unfold maxLen at i2
        by_cases h2 : q.length = 2
        · match q, h2 with
          | [a, e], _ =>
            obtain ⟨b3, o3, rfl, lb3, hcell3⟩ := HI3.out (by simp)
            have y0 : w3.cell? ⟨b3, o3, none⟩ = some (.string a) := hcell3 0 (by simp) 0 _ rfl
            have y1 : w3.cell? ⟨b3, o3 + 1, none⟩ = some (.string e) := hcell3 1 (by simp) 0 _ rfl
            have ha := HQs.out a (by simp)
            have hb := HQs.out e (by simp)
            have HNa := fun W => hid (rnumber11_c W a (by omega))
            have HNb := fun W => hid (rnumber11_c W e (by omega))
            have hr := hid (show r = mkR p (numR a) (numR e) from HClN.out)
            have hmk := mkR_isSome (p := p) (lo := numR a) (hi := numR e) he
            rw [← hr.out] at hmk
            have HSome := hid hmk.1
            have HIs := hid hmk.2
            have HRt := fun W => hid (rrightC_c W ⟨starP p, numR a, numR e⟩ (by have := star_size p; show (starP p).size ≤ 90000; omega))
            rw [HS.out] at HRt HIs HSome
            unfold ClauseI.val at HRt
            dsimp only at HRt
            generalize numR a = na at HNa HRt HIs HSome
            generalize numR e = nb at HNb HRt HIs HSome
            have u0 := HU3.out.cell (i := 0) (v := .string ⟨#[]⟩) rfl
            have u1 := HU3.out.cell (i := 1) (v := .int .i64 0) rfl
            have u2 := HU3.out.cell (i := 2) (v := .int .i64 200) rfl
            have ul := HU3.out.lt
            clear hr hmk HI3 HQs hcell3 HClN
            go_wp2_with fail
            refine wp_region_last (Rel.ext) (pre := ?pre3) (z := ?z3) ?hpre3 ?hz3 (Ext.steady w3) (by kernel_rfl) (by kernel_rfl) (by kernel_rfl) (by kernel_rfl) ?_
            case hpre3 => (simp only [List.dropLast_cons_cons, List.dropLast_singleton]; first | done | exact rfl)
            case hz3 => (simp only [List.getLast?_cons_cons, List.getLast?_singleton]; first | done | exact rfl)
            repeat (first
              | (refine AWq.val rfl rfl rfl rfl (fun K hK => ?_); go_big_quiet_op; refine hK _ ?_; clear hK K)
              | (refine AWq.skip rfl rfl rfl ?_; simp only [Act.put, List.setIfInBounds_toArray, List.set_cons_succ, List.set_cons_zero])
              | (refine AWq.call rfl Tryz.func40 (by kernel_rfl) (by kernel_rfl) rfl rfl rfl ?_; apply Exists.intro; refine And.intro (fun wc hc => ?_) ?_; (· (simp only [argsOf, anyAt, ↓reduceIte, Nat.reduceEqDiff, Array.getD_eq_getD_getElem?, List.getElem?_toArray, List.getElem?_cons_succ, List.getElem?_cons_zero, Option.getD_some]; with_reducible exact (HNa _).out)); simp only [Act.put, List.setIfInBounds_toArray, List.set_cons_succ, List.set_cons_zero])
              | (refine AWq.call rfl Tryz.func40 (by kernel_rfl) (by kernel_rfl) rfl rfl rfl ?_; apply Exists.intro; refine And.intro (fun wc hc => ?_) ?_; (· (simp only [argsOf, anyAt, ↓reduceIte, Nat.reduceEqDiff, Array.getD_eq_getD_getElem?, List.getElem?_toArray, List.getElem?_cons_succ, List.getElem?_cons_zero, Option.getD_some]; with_reducible exact (HNb _).out)); simp only [Act.put, List.setIfInBounds_toArray, List.set_cons_succ, List.set_cons_zero]))
            refine AWq.last rfl rfl rfl (fun w4 x4 => ?_)
            simp only [closeAny, Act.put, List.setIfInBounds_toArray, List.set_cons_succ, List.set_cons_zero]
            have HR4 := hid (HR3.out.ext x4)
            have HX4 := hid (HX3.out.trans x4)
            have HU4 := hid (HU3.out.ext x4)
            clear x4 HR3 HX3 HU3 u0 u1 u2 ul y0 y1
            have u0 := HU4.out.cell (i := 0) (v := .string ⟨#[]⟩) rfl
            have u1 := HU4.out.cell (i := 1) (v := .int .i64 0) rfl
            have u2 := HU4.out.cell (i := 2) (v := .int .i64 200) rfl
            have ul := HU4.out.lt
            have k0 := HU4.out.frozen 0
            have k1 := HU4.out.frozen 1
            have k2 := HU4.out.frozen 2
            go_wp2_with fail
            have HU5 : Hid (Blk (((w4.setCell ⟨g, 0, none⟩ (.string ⟨#[]⟩)).setCell ⟨g, 1, none⟩ (.int .i64 na)).setCell ⟨g, 2, none⟩ (.int .i64 nb)) g 42 #[.string ⟨#[]⟩, .int .i64 na, .int .i64 nb]) := ((HU4.out.set 0 _).set 1 _).set 2 _
            have HR5 : Hid (Blk (((w4.setCell ⟨g, 0, none⟩ (.string ⟨#[]⟩)).setCell ⟨g, 1, none⟩ (.int .i64 na)).setCell ⟨g, 2, none⟩ (.int .i64 nb)) w.heap.size 42 #[.string ⟨#[]⟩, .int .i64 0, .int .i64 0]) := ((HR4.out.far (p := ⟨g, 0, none⟩) hne _).far (p := ⟨g, 1, none⟩) hne _).far (p := ⟨g, 2, none⟩) hne _
            have HX5 : Hid (Ext w (((w4.setCell ⟨g, 0, none⟩ (.string ⟨#[]⟩)).setCell ⟨g, 1, none⟩ (.int .i64 na)).setCell ⟨g, 2, none⟩ (.int .i64 nb))) := ((HX4.out.setCell' (p := ⟨g, 0, none⟩) (Nat.le_of_lt HG.out) _).setCell' (p := ⟨g, 1, none⟩) (Nat.le_of_lt HG.out) _).setCell' (p := ⟨g, 2, none⟩) (Nat.le_of_lt HG.out) _
            clear u0 u1 u2 ul k0 k1 k2 HU4 HR4 HX4
            generalize ((w4.setCell ⟨g, 0, none⟩ (.string ⟨#[]⟩)).setCell ⟨g, 1, none⟩ (.int .i64 na)).setCell ⟨g, 2, none⟩ (.int .i64 nb) = w5 at HU5 HR5 HX5 ⊢
            have v0 := HU5.out.cell (i := 0) (v := .string ⟨#[]⟩) rfl
            have v1 := HU5.out.cell (i := 1) (v := .int .i64 na) rfl
            have v2 := HU5.out.cell (i := 2) (v := .int .i64 nb) rfl
            have vl := HU5.out.lt
            refine wp_region_tail (pre := ?pre4) (tl := ?tl4) 3 ?hpre4 ?htl4 (of_decide_eq_true (by kernel_rfl)) (by kernel_rfl) (by kernel_rfl) (by kernel_rfl) (by kernel_rfl) ?_
            case hpre4 => (simp only [List.take_succ_cons, List.take_zero]; first | done | exact rfl)
            case htl4 => (simp only [List.drop_succ_cons, List.drop_zero]; first | done | exact rfl)
            repeat (first
              | (refine AWq.val rfl rfl rfl rfl (fun K hK => ?_); go_big_quiet_op; refine hK _ ?_; clear hK K)
              | (refine AWq.skip rfl rfl rfl ?_; simp only [Act.put, List.setIfInBounds_toArray, List.set_cons_succ, List.set_cons_zero])
              | (refine AWq.call rfl Tryz.func41 (by kernel_rfl) (by kernel_rfl) rfl rfl rfl ?_; apply Exists.intro; refine And.intro (fun wc hc => ?_) ?_; (· (simp only [argsOf, anyAt, ↓reduceIte, Nat.reduceEqDiff, Array.getD_eq_getD_getElem?, List.getElem?_toArray, List.getElem?_cons_succ, List.getElem?_cons_zero, Option.getD_some]; with_reducible exact (HRt _).out)); simp only [Act.put, List.setIfInBounds_toArray, List.set_cons_succ, List.set_cons_zero]))
            refine AWq.tail rfl rfl rfl (fun w8 x8 => ?_)
            simp only [closeAny, Act.put, List.setIfInBounds_toArray, List.set_cons_succ, List.set_cons_zero]
            have HR8 := hid (HR5.out.ext x8)
            have HX8 := hid (HX5.out.trans x8)
            clear v0 v1 v2 vl x8
            have r0 := HR8.out.cell (i := 0) (v := .string ⟨#[]⟩) rfl
            have r1 := HR8.out.cell (i := 1) (v := .int .i64 0) rfl
            have r2 := HR8.out.cell (i := 2) (v := .int .i64 0) rfl
            have t0 := HR8.out.frozen 0
            have t1 := HR8.out.frozen 1
            have t2 := HR8.out.frozen 2
            have rl := HR8.out.lt
            go_wp2_with fail
            have HF : Hid (Blk _ w.heap.size 42 #[.string ⟨#[]⟩, .int .i64 na, .int .i64 nb]) := ((HR8.out.set 0 (.string ⟨#[]⟩)).set 1 (.int .i64 na)).set 2 (.int .i64 nb)
            refine bodyPost_ret (results_cell_row_tmp rfl _ _ w.heap.size 42 _ (0, 0) _ rfl HF.out Tryz.underlying42 rfl (show (Tryz.prog.info? 42).map (·.size) = some 3 by kernel_rfl)) rfl ?_
            refine ⟨((HX8.out.setCell' (p := ⟨w.heap.size, 0, none⟩) (Nat.le_refl _) _).setCell' (p := ⟨w.heap.size, 1, none⟩) (Nat.le_refl _) _).setCell' (p := ⟨w.heap.size, 2, none⟩) (Nat.le_refl _) _, ⟨⟨#[]⟩, na, nb⟩, ?_, ?_⟩
            · rw [HSome.out]; rfl
            · intro c' h
              rw [← HIs.out c' h]
        · have hr : Hid (r = none) := by unfold Hid; rw [HClN.out]; exact clN_bad h2
          have d5 : ((q.length : Int) != 2) = true := by simp only [bne_iff_ne, ne_eq]; omega
          have d5' : ((q.length : Int) == 2) = false := by simp only [beq_eq_false_iff_ne, ne_eq]; omega
          have u0 := HU3.out.cell (i := 0) (v := .string ⟨#[]⟩) rfl
          have u1 := HU3.out.cell (i := 1) (v := .int .i64 0) rfl
          have u2 := HU3.out.cell (i := 2) (v := .int .i64 200) rfl
          have ul := HU3.out.lt
          have r0 := HR3.out.cell (i := 0) (v := .string ⟨#[]⟩) rfl
          have r1 := HR3.out.cell (i := 1) (v := .int .i64 0) rfl
          have r2 := HR3.out.cell (i := 2) (v := .int .i64 0) rfl
          have t0 := HR3.out.frozen 0
          have t1 := HR3.out.frozen 1
          have t2 := HR3.out.frozen 2
          have rl := HR3.out.lt
          clear h2 HI3 HQs HClN
          go_wp2_with fail
          have HF : Hid (Blk _ w.heap.size 42 #[.string ⟨#[]⟩, .int .i64 0, .int .i64 200]) := ((HR3.out.set 0 (.string ⟨#[]⟩)).set 1 (.int .i64 0)).set 2 (.int .i64 200)
          refine bodyPost_ret (results_cell_row_tmp rfl _ _ w.heap.size 42 _ (0, 0) _ rfl HF.out Tryz.underlying42 rfl (show (Tryz.prog.info? 42).map (·.size) = some 3 by kernel_rfl)) rfl ?_
          refine ⟨((HX3.out.setCell' (p := ⟨w.heap.size, 0, none⟩) (Nat.le_refl _) _).setCell' (p := ⟨w.heap.size, 1, none⟩) (Nat.le_refl _) _).setCell' (p := ⟨w.heap.size, 2, none⟩) (Nat.le_refl _) _, ⟨⟨#[]⟩, 0, 200⟩, ?_, ?_⟩
          · rw [hr.out]; rfl
          · intro c' h
            rw [hr.out] at h
            cases h
      · rw [decide_eq_false hst] at hq
        have HS : Hid (starP p = p) := by unfold Hid starP; rw [if_neg hst]
        clear hst
        go_wp2_with fail
        have HR2 := hid (HR1.out.alloc (.cells #[.string p, .int .i64 0, .int .i64 200] 42))
        have HX2 := hid (HX1.out.alloc' (.cells #[.string p, .int .i64 0, .int .i64 200] 42))
        have HU2 := hid (Blk.new w1 42 #[.string p, .int .i64 0, .int .i64 200])
        have HG : Hid (w.heap.size < w1.heap.size) := HR1.out.lt
        clear hq HR1 HX1 r0 r1 r2 t0 t1 t2 rl c0 c1
        generalize w1.alloc (.cells #[.string p, .int .i64 0, .int .i64 200] 42) = w2 at HR2 HX2 HU2 ⊢
        generalize w1.heap.size = g at HU2 HG ⊢
        refine ((HSq _).out).mono ?_
        rintro en w3 ⟨v3, rfl, hv3, x3⟩
        have HR3 := hid (HR2.out.ext x3)
        have HX3 := hid (HX2.out.trans x3)
        have HU3 := hid (HU2.out.ext x3)
        clear x3 HR2 HX2 HU2 HSq
        have hne : w.heap.size ≠ g := by have := HG.out; omega
        have hne' : g ≠ w.heap.size := fun e => hne e.symm
        obtain ⟨A3, c3, rfl, i1, i2, i3⟩ := sl_get (code := fun s : ByteArray => [Value.string s]) hv3
        have HI3 := hid i3
        clear hv3 i3
        unfold maxLen at i2
        by_cases h2 : q.length = 2
        · match q, h2 with
          | [a, e], _ =>
            obtain ⟨b3, o3, rfl, lb3, hcell3⟩ := HI3.out (by simp)
            have y0 : w3.cell? ⟨b3, o3, none⟩ = some (.string a) := hcell3 0 (by simp) 0 _ rfl
            have y1 : w3.cell? ⟨b3, o3 + 1, none⟩ = some (.string e) := hcell3 1 (by simp) 0 _ rfl
            have ha := HQs.out a (by simp)
            have hb := HQs.out e (by simp)
            have HNa := fun W => hid (rnumber11_c W a (by omega))
            have HNb := fun W => hid (rnumber11_c W e (by omega))
            have hr := hid (show r = mkR p (numR a) (numR e) from HClN.out)
            have hmk := mkR_isSome (p := p) (lo := numR a) (hi := numR e) he
            rw [← hr.out] at hmk
            have HSome := hid hmk.1
            have HIs := hid hmk.2
            have HRt := fun W => hid (rrightC_c W ⟨starP p, numR a, numR e⟩ (by have := star_size p; show (starP p).size ≤ 90000; omega))
            rw [HS.out] at HRt HIs HSome
            unfold ClauseI.val at HRt
            dsimp only at HRt
            generalize numR a = na at HNa HRt HIs HSome
            generalize numR e = nb at HNb HRt HIs HSome
            have u0 := HU3.out.cell (i := 0) (v := .string p) rfl
            have u1 := HU3.out.cell (i := 1) (v := .int .i64 0) rfl
            have u2 := HU3.out.cell (i := 2) (v := .int .i64 200) rfl
            have ul := HU3.out.lt
            clear hr hmk HI3 HQs hcell3 HClN
            go_wp2_with fail
            refine wp_region_last (Rel.ext) (pre := ?pre5) (z := ?z5) ?hpre5 ?hz5 (Ext.steady w3) (by kernel_rfl) (by kernel_rfl) (by kernel_rfl) (by kernel_rfl) ?_
            case hpre5 => (simp only [List.dropLast_cons_cons, List.dropLast_singleton]; first | done | exact rfl)
            case hz5 => (simp only [List.getLast?_cons_cons, List.getLast?_singleton]; first | done | exact rfl)
            repeat (first
              | (refine AWq.val rfl rfl rfl rfl (fun K hK => ?_); go_big_quiet_op; refine hK _ ?_; clear hK K)
              | (refine AWq.skip rfl rfl rfl ?_; simp only [Act.put, List.setIfInBounds_toArray, List.set_cons_succ, List.set_cons_zero])
              | (refine AWq.call rfl Tryz.func40 (by kernel_rfl) (by kernel_rfl) rfl rfl rfl ?_; apply Exists.intro; refine And.intro (fun wc hc => ?_) ?_; (· (simp only [argsOf, anyAt, ↓reduceIte, Nat.reduceEqDiff, Array.getD_eq_getD_getElem?, List.getElem?_toArray, List.getElem?_cons_succ, List.getElem?_cons_zero, Option.getD_some]; with_reducible exact (HNa _).out)); simp only [Act.put, List.setIfInBounds_toArray, List.set_cons_succ, List.set_cons_zero])
              | (refine AWq.call rfl Tryz.func40 (by kernel_rfl) (by kernel_rfl) rfl rfl rfl ?_; apply Exists.intro; refine And.intro (fun wc hc => ?_) ?_; (· (simp only [argsOf, anyAt, ↓reduceIte, Nat.reduceEqDiff, Array.getD_eq_getD_getElem?, List.getElem?_toArray, List.getElem?_cons_succ, List.getElem?_cons_zero, Option.getD_some]; with_reducible exact (HNb _).out)); simp only [Act.put, List.setIfInBounds_toArray, List.set_cons_succ, List.set_cons_zero]))
            refine AWq.last rfl rfl rfl (fun w4 x4 => ?_)
            simp only [closeAny, Act.put, List.setIfInBounds_toArray, List.set_cons_succ, List.set_cons_zero]
            have HR4 := hid (HR3.out.ext x4)
            have HX4 := hid (HX3.out.trans x4)
            have HU4 := hid (HU3.out.ext x4)
            clear x4 HR3 HX3 HU3 u0 u1 u2 ul y0 y1
            have u0 := HU4.out.cell (i := 0) (v := .string p) rfl
            have u1 := HU4.out.cell (i := 1) (v := .int .i64 0) rfl
            have u2 := HU4.out.cell (i := 2) (v := .int .i64 200) rfl
            have ul := HU4.out.lt
            have k0 := HU4.out.frozen 0
            have k1 := HU4.out.frozen 1
            have k2 := HU4.out.frozen 2
            go_wp2_with fail
            have HU5 : Hid (Blk (((w4.setCell ⟨g, 0, none⟩ (.string p)).setCell ⟨g, 1, none⟩ (.int .i64 na)).setCell ⟨g, 2, none⟩ (.int .i64 nb)) g 42 #[.string p, .int .i64 na, .int .i64 nb]) := ((HU4.out.set 0 _).set 1 _).set 2 _
            have HR5 : Hid (Blk (((w4.setCell ⟨g, 0, none⟩ (.string p)).setCell ⟨g, 1, none⟩ (.int .i64 na)).setCell ⟨g, 2, none⟩ (.int .i64 nb)) w.heap.size 42 #[.string ⟨#[]⟩, .int .i64 0, .int .i64 0]) := ((HR4.out.far (p := ⟨g, 0, none⟩) hne _).far (p := ⟨g, 1, none⟩) hne _).far (p := ⟨g, 2, none⟩) hne _
            have HX5 : Hid (Ext w (((w4.setCell ⟨g, 0, none⟩ (.string p)).setCell ⟨g, 1, none⟩ (.int .i64 na)).setCell ⟨g, 2, none⟩ (.int .i64 nb))) := ((HX4.out.setCell' (p := ⟨g, 0, none⟩) (Nat.le_of_lt HG.out) _).setCell' (p := ⟨g, 1, none⟩) (Nat.le_of_lt HG.out) _).setCell' (p := ⟨g, 2, none⟩) (Nat.le_of_lt HG.out) _
            clear u0 u1 u2 ul k0 k1 k2 HU4 HR4 HX4
            generalize ((w4.setCell ⟨g, 0, none⟩ (.string p)).setCell ⟨g, 1, none⟩ (.int .i64 na)).setCell ⟨g, 2, none⟩ (.int .i64 nb) = w5 at HU5 HR5 HX5 ⊢
            have v0 := HU5.out.cell (i := 0) (v := .string p) rfl
            have v1 := HU5.out.cell (i := 1) (v := .int .i64 na) rfl
            have v2 := HU5.out.cell (i := 2) (v := .int .i64 nb) rfl
            have vl := HU5.out.lt
            refine wp_region_tail (pre := ?pre6) (tl := ?tl6) 3 ?hpre6 ?htl6 (of_decide_eq_true (by kernel_rfl)) (by kernel_rfl) (by kernel_rfl) (by kernel_rfl) (by kernel_rfl) ?_
            case hpre6 => (simp only [List.take_succ_cons, List.take_zero]; first | done | exact rfl)
            case htl6 => (simp only [List.drop_succ_cons, List.drop_zero]; first | done | exact rfl)
            repeat (first
              | (refine AWq.val rfl rfl rfl rfl (fun K hK => ?_); go_big_quiet_op; refine hK _ ?_; clear hK K)
              | (refine AWq.skip rfl rfl rfl ?_; simp only [Act.put, List.setIfInBounds_toArray, List.set_cons_succ, List.set_cons_zero])
              | (refine AWq.call rfl Tryz.func41 (by kernel_rfl) (by kernel_rfl) rfl rfl rfl ?_; apply Exists.intro; refine And.intro (fun wc hc => ?_) ?_; (· (simp only [argsOf, anyAt, ↓reduceIte, Nat.reduceEqDiff, Array.getD_eq_getD_getElem?, List.getElem?_toArray, List.getElem?_cons_succ, List.getElem?_cons_zero, Option.getD_some]; with_reducible exact (HRt _).out)); simp only [Act.put, List.setIfInBounds_toArray, List.set_cons_succ, List.set_cons_zero]))
            refine AWq.tail rfl rfl rfl (fun w8 x8 => ?_)
            simp only [closeAny, Act.put, List.setIfInBounds_toArray, List.set_cons_succ, List.set_cons_zero]
            have HR8 := hid (HR5.out.ext x8)
            have HX8 := hid (HX5.out.trans x8)
            clear v0 v1 v2 vl x8
            have r0 := HR8.out.cell (i := 0) (v := .string ⟨#[]⟩) rfl
            have r1 := HR8.out.cell (i := 1) (v := .int .i64 0) rfl
            have r2 := HR8.out.cell (i := 2) (v := .int .i64 0) rfl
            have t0 := HR8.out.frozen 0
            have t1 := HR8.out.frozen 1
            have t2 := HR8.out.frozen 2
            have rl := HR8.out.lt
            go_wp2_with fail
            have HF : Hid (Blk _ w.heap.size 42 #[.string p, .int .i64 na, .int .i64 nb]) := ((HR8.out.set 0 (.string p)).set 1 (.int .i64 na)).set 2 (.int .i64 nb)
            refine bodyPost_ret (results_cell_row_tmp rfl _ _ w.heap.size 42 _ (0, 0) _ rfl HF.out Tryz.underlying42 rfl (show (Tryz.prog.info? 42).map (·.size) = some 3 by kernel_rfl)) rfl ?_
            refine ⟨((HX8.out.setCell' (p := ⟨w.heap.size, 0, none⟩) (Nat.le_refl _) _).setCell' (p := ⟨w.heap.size, 1, none⟩) (Nat.le_refl _) _).setCell' (p := ⟨w.heap.size, 2, none⟩) (Nat.le_refl _) _, ⟨p, na, nb⟩, ?_, ?_⟩
            · rw [HSome.out]; rfl
            · intro c' h
              rw [← HIs.out c' h]
        · have hr : Hid (r = none) := by unfold Hid; rw [HClN.out]; exact clN_bad h2
          have d5 : ((q.length : Int) != 2) = true := by simp only [bne_iff_ne, ne_eq]; omega
          have d5' : ((q.length : Int) == 2) = false := by simp only [beq_eq_false_iff_ne, ne_eq]; omega
          have u0 := HU3.out.cell (i := 0) (v := .string p) rfl
          have u1 := HU3.out.cell (i := 1) (v := .int .i64 0) rfl
          have u2 := HU3.out.cell (i := 2) (v := .int .i64 200) rfl
          have ul := HU3.out.lt
          have r0 := HR3.out.cell (i := 0) (v := .string ⟨#[]⟩) rfl
          have r1 := HR3.out.cell (i := 1) (v := .int .i64 0) rfl
          have r2 := HR3.out.cell (i := 2) (v := .int .i64 0) rfl
          have t0 := HR3.out.frozen 0
          have t1 := HR3.out.frozen 1
          have t2 := HR3.out.frozen 2
          have rl := HR3.out.lt
          clear h2 HI3 HQs HClN
          go_wp2_with fail
          have HF : Hid (Blk _ w.heap.size 42 #[.string p, .int .i64 0, .int .i64 200]) := ((HR3.out.set 0 (.string p)).set 1 (.int .i64 0)).set 2 (.int .i64 200)
          refine bodyPost_ret (results_cell_row_tmp rfl _ _ w.heap.size 42 _ (0, 0) _ rfl HF.out Tryz.underlying42 rfl (show (Tryz.prog.info? 42).map (·.size) = some 3 by kernel_rfl)) rfl ?_
          refine ⟨((HX3.out.setCell' (p := ⟨w.heap.size, 0, none⟩) (Nat.le_refl _) _).setCell' (p := ⟨w.heap.size, 1, none⟩) (Nat.le_refl _) _).setCell' (p := ⟨w.heap.size, 2, none⟩) (Nat.le_refl _) _, ⟨p, 0, 200⟩, ?_, ?_⟩
          · rw [hr.out]; rfl
          · intro c' h
            rw [hr.out] at h
            cases h
    | x :: y :: t =>
      have hr := hid (show r = none from HClR.out)
      have d4 : decide ((2 : Int) < (p :: x :: y :: t).length) = true := decide_eq_true (by simp only [List.length_cons]; omega)
      have d4' : decide (2 < t.length + 1 + 1 + 1) = true := decide_eq_true (by omega)
      have d4'' : decide ((2 : Int) < (t.length : Int) + 1 + 1 + 1) = true := decide_eq_true (by omega)
      clear HClR HCell
      go_wp2_with fail
      have HF : Hid (Blk ((((w1.setCell ⟨w.heap.size, 0, none⟩ (.string p)).setCell ⟨w.heap.size, 1, none⟩ (.int .i64 0)).setCell ⟨w.heap.size, 2, none⟩ (.int .i64 200)).alloc (.cells #[.string p, .int .i64 0, .int .i64 200] 42)) w.heap.size 42 #[.string p, .int .i64 0, .int .i64 200]) := (((HR1.out.set 0 (.string p)).set 1 (.int .i64 0)).set 2 (.int .i64 200)).alloc _
      refine bodyPost_ret (results_cell_row_tmp rfl _ _ w.heap.size 42 _ (0, 0) _ rfl HF.out Tryz.underlying42 rfl (show (Tryz.prog.info? 42).map (·.size) = some 3 by kernel_rfl)) rfl ?_
      refine ⟨(((HX1.out.setCell' (p := ⟨w.heap.size, 0, none⟩) (Nat.le_refl _) _).setCell' (p := ⟨w.heap.size, 1, none⟩) (Nat.le_refl _) _).setCell' (p := ⟨w.heap.size, 2, none⟩) (Nat.le_refl _) _).alloc' _, ⟨p, 0, 200⟩, ?_, ?_⟩
      · rw [hr.out]; rfl
      · intro c' h
        rw [hr.out] at h
        cases h
end Go.Proofs.YtggbkjmedoooaaaGreatDoor
