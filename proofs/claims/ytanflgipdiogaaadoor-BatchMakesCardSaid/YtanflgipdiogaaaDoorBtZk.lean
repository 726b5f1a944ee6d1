/-
  The law BatchMakes answers true, whatever comes in: the row and its tied card.
-/
import Derived.Test.YtanflgipdiogaaaDoorOpMk
import Derived.Test.YtanflgipdiogaaaDoorQcK
namespace Go.Proofs.YtanflgipdiogaaaDoor
set_option linter.unusedSimpArgs false
set_option linter.unusedVariables false
open Go.RowKit Go.ChangeShapes Go.WideShapes Go.ChangeAt Go.Deep

theorem sl_n {w : World} {sz : Nat} {α : Type} {code : α → List Value} {s : SlV} {l : List α} (h : Sl w sz s.val (l.map code)) : s.n = l.length ∧ l.length ≤ maxLen := by
  obtain ⟨A, c, e, h1, h2, _⟩ := sl_get h
  unfold SlV.val at e
  injection e with _ e
  exact ⟨e, Nat.le_trans h1 h2⟩
theorem makes_walk (w : World) (a : MsgC) (v : Value) (l : List EntI) (lim m : Int) (hm : w.cell? ⟨0, 0, none⟩ = some (.int .i64 m)) (hM : MsgIn w a) (h : Sl w 21 v (l.map EntI.cells)) (hin : ∀ e ∈ l, EntIn e) : Calls Tryd.prog 5 #[.agg a.list.toArray, v, .int .i64 lim] w (Ret (.bool true) w) := by
  obtain ⟨⟨cl, hf, _⟩, ⟨hl, hh, _⟩, ⟨el, he, _⟩, ⟨nl, hn, _⟩⟩ := hM
  have hL : ∀ W, Ext w W → Calls Tryd.prog 15 #[.agg a.arr] W (Ret (.bool (light18 el hl.length nl.length cl)) W) := fun W hW => light18_c W a cl hl.length nl.length el (hf.ext hW) (sl_n hh).1 (sl_n hn).1 (he.ext hW) (sl_n hh).2 (sl_n hn).2
  show Calls Tryd.prog 5 #[.agg a.arr, v, .int .i64 lim] w (Ret (.bool true) w)
  cases h1 : (l.all lightE && decide (l.length ≤ 60)) with
  | false => exact makes_dark w a v l lim m hm h _ hL (.inl h1)
  | true =>
    cases h2 : light18 el hl.length nl.length cl with
    | false => exact makes_dark w a v l lim m hm h _ hL (.inr ⟨h1, h2⟩)
    | true =>
      rw [h2] at hL
      have h1' := h1
      simp only [Bool.and_eq_true, decide_eq_true_eq] at h1'
      have hok : ∀ e ∈ l, EntOk e := fun e he => (hin e he).ok (List.all_eq_true.1 h1'.1 e he)
      unfold light18 at h2
      simp only [Bool.and_eq_true, decide_eq_true_eq] at h2
      by_cases hb : lim < 1 ∨ 4096 < lim
      · exact makes_none w a v l lim m hm h hL h1 (fun W hW => make_bad W a v l lim (h.ext hW) hb) (fun W hW => cut_bad W v l (h.ext hW) lim hb)
      · cases h3 : l.all hasB with
        | false =>
          refine makes_none w a v l lim m hm h hL h1 (fun W hW => (make_c W a v l nl lim m (hW.cell hm) (h.ext hW) (hn.ext hW) (by omega) (by omega) hok (by omega)).mono ?_) (fun W hW => (cut_c W v l lim m (hW.cell hm) (h.ext hW) (by omega) hok (by omega)).mono ?_)
          · rintro en w' (⟨_, rfl, x⟩ | ⟨h4, _⟩)
            · exact ⟨rfl, x⟩
            · rw [h3] at h4; cases h4
          · rintro en w' (⟨_, rfl, x⟩ | ⟨h4, _⟩)
            · exact ⟨rfl, x⟩
            · rw [h3] at h4; cases h4
        | true => exact makes_main w a v l nl lim m hm h hn (by omega) hok h1'.2 h3 (by omega) hL h1
set_option maxRecDepth 100000 in
theorem batchMakes_lifted (os : Os) (started : os.Started) (H : Type) (enc : TypeId × Value → H) :
    ReturnsInHanded {} Tryd.checked os 5 .any (fun w args => (Rows.batchMakesSpec.pre enc Tryd.prog Tryd.f5 Rows.batchMakesRow.domain false w args ∧ laidMetH Tryd.prog Rows.batchMakesRow.laid w) ∧ sizedMet enc Tryd.prog Tryd.f5 (OpenSpec.ofChange Rows.batchMakesSpec) false w args) (Rows.batchMakesSpec.post enc Tryd.prog Tryd.f5 false true false false) := by
  refine of_change_and_shaped (C := Tryd.checked) (X := fun w _ => laidMetH Tryd.prog Rows.batchMakesRow.laid w) (fun _ _ _ hh h => h.of_heap hh) own started (by kernel_rfl) Tryd.func5
    (ChangeSpec.witness_shaped (enc := enc) (C := Tryd.checked) (os := os) (X := fun w _ => laidMetH Tryd.prog Rows.batchMakesRow.laid w) false (World.laidAll Tryd.prog os Rows.batchMakesRow.laid) #[.agg msgZ.arr, .slice none 0 0, .int .i64 0] 8 (World.laidAll_os _ _ _)
      (World.shaped_of_ZipB (by kernel_rfl) (by kernel_rfl)) (by kernel_rfl) (by kernel_rfl) (by kernel_rfl)
      (by rw [MakeChecks.laidMetH_plain _ _ _ (by kernel_rfl)]; exact laidMet_laidAll _ (by kernel_rfl) (by kernel_rfl))) ?_
  intro W base args ds gs before hval0 hW hsh
  have hval : ∀ (j : Nat) t v, Tryd.f5.params[j]? = some t → args[j]? = some v → Value.okWide Tryd.prog W .any base t v := hval0
  have hW' := hW
  obtain ⟨p, q, hA0, hV, _, _, _⟩ := hW
  have hA : DataW.TrodAll enc Tryd.prog W 0 (fun _ => true) true Tryd.f5.params.toList args.toList ds p := hA0
  obtain ⟨rfl, rfl⟩ := trodVars_none hV
  rw [Tryd.params5] at hA hval
  obtain ⟨v0, v1, v2, d0, d1, d2, p0, p1, p2, hargs, rfl, _, h0, h1, h2⟩ := trodAll_three hA
  obtain rfl : args = #[v0, v1, v2] := by cases args; simp_all
  obtain ⟨a, rfl, o0⟩ := open_agg Tryd.underlying62 (opens_msg W) (hval 0 62 v0 rfl rfl) h0
  obtain ⟨l, hs0, ho0⟩ := open_sl Tryd.underlying22 (opens_ent W) cellsEnt (by decide) (fun _ => rfl) (hval 1 22 v1 rfl rfl) h1
  obtain ⟨n, rfl, o1⟩ := open_int Tryd.underlying3 (hval 2 3 v2 rfl rfl) h2
  obtain ⟨m, hm⟩ := maxlen_cell hsh
  refine (makes_walk W a v1 l n m hm o0 hs0 ho0).mono fun e W' ⟨he, hx⟩ => ?_
  exact ⟨_, he, law_post rfl rfl rfl underlyingBool laidOut (by kernel_rfl) hW' hx⟩
theorem batchMakes_row : Rows.BatchMakesSaid :=
  OpenClaim.holds_of_wide 5 Tryd.f5 rfl rfl rfl rfl rfl rfl rfl ⟨rfl, rfl, rfl, rfl, rfl⟩ rfl rfl rfl rfl rfl (by kernel_rfl) Tryd.func5 (by kernel_rfl)
    (of_decide_eq_true (by kernel_rfl)) (by unfold Func.isWrapper; first | (rw [if_pos (by decide +kernel)]; kernel_rfl) | (rw [if_neg (by decide +kernel)]; exact ⟨rfl, rfl⟩))
    (fun os started H enc _ => batchMakes_lifted os started H enc)
theorem batchMakes_holds : Rows.BatchMakesCardSaid :=
  Claim7.holds_tied_plain_at .later [] [.data, .pinned] true Rows.batchMakesCard.stood.harness false batchMakes_row (fun _ h => by cases h) (by kernel_rfl) (fun _ h => by cases h) batchMakes_row_tie rfl ⟨rfl, rfl⟩ (by kernel_rfl) rfl
    (fun f fn hf hfn => by
      obtain rfl : f = 5 := Option.some.inj ((show Tryd.prog.funcNamed Rows.batchMakesRow.func = some 5 by kernel_rfl).symm.trans hf) |>.symm
      obtain rfl : fn = Tryd.f5 := (Option.some.inj (Tryd.func5.symm.trans hfn)).symm
      exact ⟨by kernel_rfl, fun j t ht => by
        rw [Tryd.params5] at ht
        have hm : t ∈ [62, 22, 3] := by simpa using Array.mem_of_getElem? ht
        have hall : ([62, 22, 3].all fun u => !Tryd.prog.wantsStandIn u) = true := by kernel_rfl
        exact (show Tryd.prog.wantsStandIn t = false by simpa using List.all_eq_true.1 hall t hm)⟩)
    (by kernel_rfl)
#print axioms batchMakes_holds
end Go.Proofs.YtanflgipdiogaaaDoor
