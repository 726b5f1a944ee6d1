/-
  The document's Parse of chapter 11.
  flang.Plain.
-/
import Derived.Test.YtggbkjmedoooaaaGreatDoorQdH
import Derived.Test.YtggbkjmedoooaaaGreatDoorFgPk
namespace Go.Proofs.YtggbkjmedoooaaaGreatDoor
set_option linter.unusedSimpArgs false
set_option linter.unusedVariables false
open Go.RowKit Go.Sort

theorem allR_snoc : ∀ {l : List ByteArray} {f : List ClauseI} {x : ByteArray} {c : ClauseI}, allR l = some f → clR x = some c → allR (l ++ [x]) = some (f ++ [c])
  | [], f, x, c, h, hc => by
    simp only [allR, Option.some.injEq] at h
    subst h
    simp only [List.nil_append, allR, hc]
  | y :: l, f, x, c, h, hc => by
    unfold allR at h
    cases h1 : clR y with
    | none => rw [h1] at h; simp at h
    | some d =>
      cases h2 : allR l with
      | none => rw [h1, h2] at h; simp at h
      | some g =>
        rw [h1, h2] at h
        simp only [Option.some.injEq] at h
        subst h
        have ih := allR_snoc h2 hc
        rw [List.cons_append]
        unfold allR
        rw [h1, ih]; rfl
theorem allR_hole : ∀ {l : List ByteArray} {k : Nat} (h : k < l.length), clR l[k] = none → allR l = none
  | [], k, h, _ => by cases h
  | y :: l, 0, _, hc => by
    simp only [List.getElem_cons_zero] at hc
    unfold allR
    rw [hc]
  | y :: l, k + 1, h, hc => by
    simp only [List.getElem_cons_succ] at hc
    have ih := allR_hole (l := l) (k := k) (by simpa using h) hc
    unfold allR
    rw [ih]
    cases clR y <;> rfl
theorem parR_none {s : ByteArray} (hs : s ≠ Pa.mk [33]) (h : allR (C44.spB s) = none) : parR s = none := by
  unfold parR
  rw [if_neg hs, h]
theorem parR_all {s : ByteArray} {f : List ClauseI} (hs : s ≠ Pa.mk [33]) (h : allR (C44.spB s) = some f) : parR s = if f.length ≤ 8 then some f else none := by
  unfold parR
  rw [if_neg hs, h]
theorem parR_bang : parR (Pa.mk [33]) = some [] := by
  unfold parR
  rw [if_pos rfl]
set_option maxRecDepth 100000 in
set_option maxHeartbeats 1000000 in
theorem rparse_bang (w : World) : Calls Tryz.prog 13 #[.string (Pa.mk [33])] w (Ret (.tuple #[.slice none 0 0, .bool true]) w) := by
  unfold Pa.mk
  go_enter Tryz.func13, Tryz.ntmps13
  go_wp2_with fail
  go_ret2
  exact ⟨rfl, Ext.refl _⟩
set_option maxRecDepth 100000 in
set_option maxHeartbeats 8000000 in
theorem rparse_main (w : World) (s : ByteArray) (hs : s.size ≤ 2000) (hne : s ≠ Pa.mk [33]) : Calls Tryz.prog 13 #[.string s] w (fun en w' => Ext w w' ∧ ((parR s = none ∧ ∃ v, en = .returned (.tuple #[v, .bool false])) ∨ (∃ f v, parR s = some f ∧ en = .returned (.tuple #[v, .bool true]) ∧ Sl w' 3 v (f.map ClauseI.cells)))) := by
  have HSp := fun W => hid (C44.rsplit_c s W (by omega))
  have HNone := hid (parR_none hne)
  have HAll := hid (fun f => parR_all (f := f) hne)
  have hlen := C44.spB_length s
  have HParts := hid (C44.spB_parts s)
  have hq : (s.toList == [33]) = false := by
    have := beq_toList s (Pa.mk [33])
    rw [Pa.mk_toList, decide_eq_false hne] at this
    exact this
  generalize C44.spB s = l at HNone HAll HSp hlen HParts
  generalize parR s = r at HNone HAll ⊢
  clear hne
  go_enter Tryz.func13, Tryz.ntmps13
  go_wp2_with fail
  refine ((HSp _).out).mono ?_
  rintro en w0 ⟨v, rfl, hv, x0⟩
  have HX0 := hid x0
  obtain ⟨A, c, rfl, g1, g2, g3⟩ := sl_get (code := fun s : ByteArray => [Value.string s]) hv
  have HG := hid g3
  clear x0 HSp hv g3
  unfold maxLen at g2
  go_wp2_with fail
  go_loopw [4, 6] (fun s4 s6 wr => ∃ (k : Nat) (ov : Value) (acc : List ClauseI), ov = s4 ∧ k ≤ l.length ∧ acc.length = k ∧ s6 = .int .i64 k ∧ Hid (Ext w0 wr) ∧ Hid (allR (l.take k) = some acc) ∧ Hid (wr.ownsRow w0.heap.size 42 3 ov acc.length (acc.map ClauseI.cells).flatten)) (fun _ s6 _ => l.length - (intOf s6).toNat)
  case atStart => exact ⟨0, _, [], rfl, by omega, rfl, rfl, Ext.refl _, rfl, ownsRow_nil _ _ _ _⟩
  case round =>
    obtain ⟨k, ov, acc, rfl, hk, hacc, rfl, hE, hA, hO⟩ := hrel
    have HXr := hid (HX0.out.trans hE.out)
    by_cases hlt : k < l.length
    · have e1 : decide ((k : Int) < l.length) = true := decide_eq_true (by omega)
      have e1' : decide (k < l.length) = true := decide_eq_true hlt
      obtain ⟨b, o, rfl, lb, hcell⟩ := HG.out (by omega)
      have c0 := hE.out.cell (hcell k hlt 0 _ rfl)
      have l0 := Nat.lt_of_lt_of_le lb hE.out.size
      simp only [Nat.mul_one, Nat.add_zero] at c0
      have hx := HParts.out l[k] (List.getElem_mem hlt)
      have HCl := fun W => hid (rclause_c W l[k] (by omega))
      have HHole := hid (fun h => allR_hole hlt h)
      have HSnoc := hid (fun c (h : clR l[k] = some c) => (show allR (l.take (k + 1)) = some (acc ++ [c]) by rw [List.take_succ_eq_append_getElem hlt]; exact allR_snoc hA.out h))
      generalize l[k] = x at c0 HCl HHole HSnoc
      generalize clR x = cb at HCl HHole HSnoc
      clear hx hcell lb
      go_wp2_with fail
      refine ((HCl _).out).mono ?_
      rintro en w3 ⟨x3, cl, rfl, hcl⟩
      have HX3 := hid (HXr.out.trans x3)
      have HE3 := hid (hE.out.trans x3)
      have HO3 := hid (ownsRow_ext hO.out x3)
      clear x3 HXr hE hO HCl
      have hE4 := Ext.alloc w3 (.cells #[.string cl.pre, .int .i64 cl.lo, .int .i64 cl.hi] 42)
      cases cb with
      | none =>
        have hr := hid (HNone.out (HHole.out rfl))
        have HX4 := hid (HX3.out.trans hE4)
        clear HHole HSnoc HAll HNone hE4 c0 hcl
        simp only [Option.isSome_none]
        go_wp2_with fail
        go_ret2
        exact ⟨HX4.out, .inl ⟨hr.out, _, rfl⟩⟩
      | some c' =>
        obtain rfl := hcl c' rfl
        have HA2 := hid (HSnoc.out cl rfl)
        have hal : acc.length ≤ 2001 := by omega
        obtain ⟨v', w5, hrun, ho5, hk5, _⟩ := app_one (P := Tryz.prog) clause_elem clause_coded (ownsRow_ext HO3.out hE4) (HE3.out.trans hE4).size cl (by omega) (by omega)
        simp only [ClauseI.cells, World.size_alloc] at hrun
        have HE5 : Hid (Ext w0 w5) := hk5.toExt (HE3.out.trans hE4) (fun q hq => (row_block HO3.out q hq).1)
        have HO5 := hid ho5
        clear HHole HSnoc ho5 hk5 hE4 c0 HO3 hcl
        simp only [Option.isSome_some]
        go_wp2_with (at_builtin; refine wpList_app rfl (.tmp 29) (.tmp 31) _ _ rfl rfl rfl hrun ?_)
        go_roundw
        case rel => exact ⟨k + 1, _, acc ++ [cl], rfl, by omega, by simp [hacc], by go_num, HE5, HA2, HO5.out⟩
        case measure => simp [intOf]; omega
    · obtain rfl : k = l.length := by omega
      have e1 : decide ((l.length : Int) < l.length) = false := decide_eq_false (by omega)
      have e1' : decide (l.length < l.length) = false := decide_eq_false (by omega)
      rw [List.take_length] at hA
      have HSl := hid (sl_of_row (e := 42) (base := w0.heap.size) (clause_coded.sizes acc) (by rw [List.length_map]; exact hO.out))
      have hP := hid (HAll.out acc hA.out)
      obtain ⟨A7, c7, hv7, g7, g8, _⟩ := sl_get HSl.out
      unfold maxLen at g8
      subst hv7
      rw [hacc] at *
      clear HAll HNone hO hE HG HParts hA
      by_cases h8 : l.length ≤ 8
      · have d1 : decide ((l.length : Int) ≤ 8) = true := decide_eq_true (by omega)
        have d1' : decide (l.length ≤ 8) = true := decide_eq_true h8
        have hr : Hid (r = some acc) := by unfold Hid; rw [hP.out, if_pos h8]
        clear h8 hP
        go_wp2_with fail
        go_ret2
        exact ⟨HXr.out, .inr ⟨acc, hr.out, _, rfl, HSl.out⟩⟩
      · have d1 : decide ((l.length : Int) ≤ 8) = false := decide_eq_false (by omega)
        have d1' : decide (l.length ≤ 8) = false := decide_eq_false h8
        have hr : Hid (r = none) := by unfold Hid; rw [hP.out, if_neg h8]
        clear h8 hP
        go_wp2_with fail
        go_ret2
        exact ⟨HXr.out, .inl ⟨hr.out, _, rfl⟩⟩
theorem rparse_c (w : World) (s : ByteArray) (hs : s.size ≤ 2000) : Calls Tryz.prog 13 #[.string s] w (fun en w' => Ext w w' ∧ ((parR s = none ∧ ∃ v, en = .returned (.tuple #[v, .bool false])) ∨ (∃ f v, parR s = some f ∧ en = .returned (.tuple #[v, .bool true]) ∧ Sl w' 3 v (f.map ClauseI.cells)))) := by
  by_cases h : s = Pa.mk [33]
  · subst h
    refine (rparse_bang w).mono ?_
    rintro en w' ⟨rfl, x⟩
    exact ⟨x, .inr ⟨[], _, parR_bang, rfl, Sl.nil _ _⟩⟩
  · exact rparse_main w s hs h
theorem parse_c (w : World) (s : ByteArray) (m : Int) (hm : w.cell? ⟨0, 0, none⟩ = some (.int .i64 m)) (hs : s.size ≤ 512) : Calls Tryz.prog 10 #[.string s] w (fun en w' => Ext w w' ∧ ((parR s = none ∧ en = .returned (.tuple #[.slice none 0 0, .int .i64 14])) ∨ (∃ f v, parR s = some f ∧ en = .returned (.tuple #[v, .int .i64 0]) ∧ Sl w' 3 v (f.map ClauseI.cells)))) := by
  by_cases h : s = Pa.mk [33]
  · subst h
    refine (parse_bang w).mono ?_
    rintro en w' ⟨rfl, x⟩
    exact ⟨x, .inr ⟨[], _, parR_bang, rfl, Sl.nil _ _⟩⟩
  · exact parse_main w s m hm hs h
end Go.Proofs.YtggbkjmedoooaaaGreatDoor
namespace Go.Proofs.YtggbkjmedoooaaaGreatDoor
set_option linter.unusedSimpArgs false
set_option linter.unusedVariables false
open Go.RowKit Go.Sort

set_option maxRecDepth 100000 in
set_option maxHeartbeats 4000000 in
theorem plain_big (w : World) (s : ByteArray) (hs : 512 < s.size) : Calls Tryz.prog 14 #[.string s] w (Ret (.tuple #[.string ⟨#[]⟩, .int .i64 4]) w) := by
  have HP := fun W => hid (parse_big W s hs)
  clear hs
  go_enter Tryz.func14, Tryz.ntmps14
  go_wp2_with fail
  refine ((HP _).out).mono ?_
  rintro en w1 ⟨rfl, x1⟩
  have HX := hid x1
  clear x1
  go_wp2_with fail
  go_ret2
  exact ⟨rfl, HX.out⟩
set_option maxRecDepth 100000 in
set_option maxHeartbeats 4000000 in
theorem plain_c (w : World) (s : ByteArray) (m : Int) (hm : w.cell? ⟨0, 0, none⟩ = some (.int .i64 m)) (hs : s.size ≤ 512) : Calls Tryz.prog 14 #[.string s] w (fun en w' => Ext w w' ∧ ((parR s = none ∧ en = .returned (.tuple #[.string ⟨#[]⟩, .int .i64 14])) ∨ (∃ f, parR s = some f ∧ en = .returned (.tuple #[.string (plainF f), .int .i64 0])))) := by
  have HP := fun W (hW : Ext w W) => hid (parse_c W s m (hW.cell hm) hs)
  have HM := hid hm
  have HRight := hid (fun f => parR_right (s := s) (f := f))
  generalize parR s = r at HP HRight ⊢
  clear hm hs
  go_enter Tryz.func14, Tryz.ntmps14
  go_wp2_with fail
  refine ((HP _ (Ext.refl w)).out).mono ?_
  rintro en w1 ⟨x1, (⟨hr, rfl⟩ | ⟨f, v, hr, rfl, hv⟩)⟩
  · have HX := hid x1
    have HR := hid hr
    clear x1 HP hr HRight
    go_wp2_with fail
    go_ret2
    exact ⟨HX.out, .inl ⟨HR.out, rfl⟩⟩
  · have HX := hid x1
    have HR := hid hr
    obtain ⟨hrt, hl⟩ := HRight.out f hr
    have HLt : Hid (LightF f) := fun c hc => by have := right_light hrt c hc; omega
    have HNo := fun W (hW : Ext w1 W) => hid (fnorm_c W v f (hv.ext hW) (by omega) HLt.out)
    have HRt := hid hrt
    have HV := hid hv
    have HL := hid hl
    obtain ⟨A, c, rfl, a1, a2, _⟩ := sl_get hv
    unfold maxLen at a2
    clear x1 HP hr HRight hrt hv hl HLt
    go_wp2_with fail
    refine ((HNo _ (Ext.refl w1)).out).mono ?_
    rintro en w2 ⟨v2, rfl, hv2, x2⟩
    have HX2 := hid (HX.out.trans x2)
    have HV2 := hid hv2.1
    have HV1 := hid (HV.out.ext x2)
    obtain ⟨A2, c2, rfl, b1, b2, _⟩ := sl_get hv2.1
    unfold maxLen at b2
    clear x2 HNo HX hv2 HV
    by_cases h8 : (normF f).length ≤ 8
    · have d1 : decide (((normF f).length : Int) ≤ 8) = true := decide_eq_true (by omega)
      have d1' : decide ((normF f).length ≤ 8) = true := decide_eq_true h8
      have hpl : Hid (plainF f = textF (normF f)) := by unfold Hid plainF; rw [if_pos h8]
      have HPr := hid (print_ok w2 _ (normF f) m (HX2.out.cell HM.out) HV2.out (checkF_right.2 ⟨norm_right HRt.out, h8⟩))
      generalize textF (normF f) = tx at hpl HPr
      generalize (normF f).length = nl at d1 d1' HPr b1 h8 ⊢
      clear h8
      go_wp2_with fail
      refine (HPr.out).mono ?_
      rintro en w3 ⟨rfl, x3⟩
      have HX3 := hid (HX2.out.trans x3)
      clear x3
      go_wp2_with fail
      go_ret2
      exact ⟨HX3.out, .inr ⟨f, HR.out, by rw [hpl.out]; rfl⟩⟩
    · have d1 : decide (((normF f).length : Int) ≤ 8) = false := decide_eq_false (by omega)
      have d1' : decide ((normF f).length ≤ 8) = false := decide_eq_false h8
      have hpl : Hid (plainF f = textF f) := by unfold Hid plainF; rw [if_neg h8]
      have HPr := hid (print_ok w2 _ f m (HX2.out.cell HM.out) HV1.out (checkF_right.2 ⟨HRt.out, HL.out⟩))
      generalize textF f = tx at hpl HPr
      generalize (normF f).length = nl at d1 d1' b1 h8 ⊢
      clear h8
      go_wp2_with fail
      refine (HPr.out).mono ?_
      rintro en w3 ⟨rfl, x3⟩
      have HX3 := hid (HX2.out.trans x3)
      clear x3
      go_wp2_with fail
      go_ret2
      exact ⟨HX3.out, .inr ⟨f, HR.out, by rw [hpl.out]; rfl⟩⟩
end Go.Proofs.YtggbkjmedoooaaaGreatDoor
