/-
  The document's Alike.
-/
import Derived.Test.YtggbkjmedoooaaaGreatDoorQdD
import Derived.Test.YtggbkjmedoooaaaGreatDoorQdB
namespace Go.Proofs.YtggbkjmedoooaaaGreatDoor
set_option linter.unusedSimpArgs false
set_option linter.unusedVariables false
open Go.RowKit Go.Sort

theorem nil_of_form {S : Int → Prop} {l : List Rng} (hf : IsForm l) (h : ∀ n, memS l n ↔ S n) : l.length = 0 ↔ ∀ n, ¬ S n := by
  constructor
  · intro h0 n hs
    have := (h n).2 hs
    rw [List.eq_nil_of_length_eq_zero h0, memS_nil] at this
    exact this
  · intro hn
    rcases l with _ | ⟨r, t⟩
    · rfl
    · have hok := hf.ok r (by simp)
      unfold Ok1 at hok
      exact absurd ((h r.lo).1 ⟨r, by simp, Int.le_refl _, hok.2.1⟩) (hn _)
/-- What the first has at a path and the second has not. -/
noncomputable def difR (f g : List ClauseI) (p : ByteArray) : List Rng := nf fun n => sizes (selR f p) n ∧ ¬ sizes (selR g p) n
theorem difR_nil (f g : List ClauseI) (p : ByteArray) : (difR f g p).length = 0 ↔ ∀ n, sizes (selR f p) n → sizes (selR g p) n := by
  obtain ⟨h1, h2⟩ := diff_form (selR f p) (selR g p)
  rw [show difR f g p = nf fun n => sizes (selR f p) n ∧ ¬ sizes (selR g p) n from rfl, nil_of_form h1 h2]
  constructor
  · intro h n hd
    exact Classical.byContradiction fun hn => h n ⟨hd, hn⟩
  · rintro h n ⟨hd, hn⟩
    exact hn (h n hd)
set_option maxRecDepth 100000 in
set_option maxHeartbeats 8000000 in
theorem ralike_c (w : World) (u v : Value) (f g : List ClauseI) (hu : Sl w 3 u (f.map ClauseI.cells)) (hv : Sl w 3 v (g.map ClauseI.cells)) (lf : f.length ≤ 5000) (lg : g.length ≤ 5000) (sf : LightF f) (sg : LightF g) : Calls Tryz.prog 16 #[u, v] w (Ret (.bool (decide (normF f = normF g))) w) := by
  have HPf := hid (rprefixes_f w u f hu lf)
  have HPg := fun W (hW : Ext w W) => hid (rprefixes_c W v g (hv.ext hW) lg)
  have HSf := fun W (hW : Ext w W) (p : ByteArray) (hp : p.size ≤ 1000) => hid (rsizes_c W u f p (hu.ext hW) lf hp sf)
  have HSg := fun W (hW : Ext w W) (p : ByteArray) (hp : p.size ≤ 1000) => hid (rsizes_c W v g p (hv.ext hW) lg hp sg)
  have HTf := fun W (p : ByteArray) (x y : Value) (hx : Sl W 2 x ((selR f p).map Rng.cells)) (hy : Sl W 2 y ((selR g p).map Rng.cells)) => (by
    have := Sz.rtwo2_f W x y _ _ hx hy
    exact hid this : Hid (Calls Tryz.prog 27 #[x, y, .int .i64 2] W (RetQ (fun v' w' => RowAt Rng.cells 2 (difR f g p) v' w' ∧ Sz.Fresh W v') W)))
  have HTg := fun W (p : ByteArray) (x y : Value) (hx : Sl W 2 x ((selR g p).map Rng.cells)) (hy : Sl W 2 y ((selR f p).map Rng.cells)) => (by
    have := Sz.rtwo2_f W x y _ _ hx hy
    exact hid this : Hid (Calls Tryz.prog 27 #[x, y, .int .i64 2] W (RetQ (fun v' w' => RowAt Rng.cells 2 (difR g f p) v' w' ∧ Sz.Fresh W v') W)))
  have hpf := preS_len f
  have hpg := preS_len g
  obtain ⟨L, hL⟩ : ∃ L, L = (preS f ++ preS g) ++ [(⟨#[]⟩ : ByteArray)] := ⟨_, rfl⟩
  have HLs : Hid (∀ p ∈ L, p.size ≤ 1000) := fun p hp => by
    rw [hL] at hp
    rcases List.mem_append.1 hp with hp | hp
    · rcases List.mem_append.1 hp with hp | hp
      · obtain ⟨c, hc, rfl⟩ := (mem_preS f p).1 hp
        have := sf c hc; omega
      · obtain ⟨c, hc, rfl⟩ := (mem_preS g p).1 hp
        have := sg c hc; omega
    · rw [List.mem_singleton.1 hp]; decide
  have HYes : Hid ((∀ p ∈ L, (difR f g p).length = 0 ∧ (difR g f p).length = 0) → decide (normF f = normF g) = true) := fun h => by
    refine decide_eq_true (norm_like (like_at fun p hp n => ?_))
    obtain ⟨h1, h2⟩ := h p (by rw [hL]; exact List.mem_append_left _ hp)
    exact ⟨(difR_nil f g p).1 h1 n, (difR_nil g f p).1 h2 n⟩
  have HNo : Hid (∀ p, ¬ ((difR f g p).length = 0 ∧ (difR g f p).length = 0) → decide (normF f = normF g) = false) := fun p h => by
    refine decide_eq_false fun e => h ?_
    have hl := (norm_iff f g).1 e
    exact ⟨(difR_nil f g p).2 fun n => (hl p n).1, (difR_nil g f p).2 fun n => (hl p n).2⟩
  have hLl : L.length ≤ 10001 := by rw [hL]; simp; omega
  have HL := hid hL
  obtain ⟨A, c, rfl, _⟩ := sl_get hu
  obtain ⟨B, d, rfl, _⟩ := sl_get hv
  generalize decide (normF f = normF g) = r at HYes HNo ⊢
  generalize preS f = pf at *
  generalize preS g = pg at *
  clear hu hv sf sg hL
  go_enter Tryz.func16, Tryz.ntmps16
  go_wp2_with (first
    | (at_builtin; obtain ⟨v4, w4, hrun4, ho4, hk4, _⟩ := app_one (P := Tryz.prog) str_elem str_coded HO3.out HE3.out.size (⟨#[]⟩ : ByteArray) (by rw [List.length_append]; omega) (by omega); simp only [strC] at hrun4; have HE4 := hid (hk4.toExt HE3.out (fun q hq => (row_block HO3.out q hq).1)); have HO4 : Hid (w4.ownsRow w.heap.size 9 1 v4 L.length (L.map strC).flatten) := (by unfold Hid; rw [HL.out]; exact ho4); clear ho4 hk4; refine wpList_app rfl (.tmp 12) (.tmp 13) _ _ rfl rfl rfl hrun4 ?_)
    | (at_builtin; obtain ⟨v3, w3, hrun3, ho3, hk3, _, _⟩ := app_row (P := Tryz.prog) (ty := 43) str_elem (ownsRow_ext HO1.out.2 HX2.out) (HX1.out.trans HX2.out).size (src_of_sl Tryz.underlying43 str_coded HV2.out.1 (Ext.refl _)) (by unfold maxLen; omega) (by omega); have HE3 := hid (hk3.toExt (HX1.out.trans HX2.out) (fun q hq => (row_block HO1.out.2 q hq).1)); have HO3 : Hid (w3.ownsRow w.heap.size 9 1 v3 (pf ++ pg).length (((pf ++ pg).map strC).flatten)) := (by unfold Hid; simpa using ho3); clear ho3 hk3; refine wpList_app rfl (.tmp 8) (.tmp 10) _ _ rfl rfl rfl hrun3 ?_)
    | (go_at_call 26; have hx0 := HX1.out; clear hx0; refine ((HPg _ HX1.out).out).mono ?_; rintro e w2 ⟨v2, rfl, hv2, hx2⟩; have HV2 := hid hv2; have HX2 := hid hx2; obtain ⟨A2, c2, rfl, _⟩ := sl_get hv2.1; clear hv2 hx2)
    | (go_at_call 26; refine ((HPf).out).mono ?_; rintro e w1 ⟨v1, rfl, ho1, hx1⟩; have HO1 := hid ho1; have HX1 := hid hx1; clear ho1 hx1))
  have hrow := sl_of_row (str_coded.sizes L) (by rw [List.length_map]; exact HO4.out)
  obtain ⟨A4, c4, hA4, p1, p2, p3⟩ := sl_get hrow
  subst hA4
  unfold maxLen at p2
  clear hrow HO4 HO3 HO1 HV2 HL
  go_loopw [6] (fun i wr => ∃ k : Nat, k ≤ L.length ∧ i = .int .i64 k ∧ Ext w4 wr ∧ Hid (∀ j (hj : j < L.length), j < k → (difR f g L[j]).length = 0 ∧ (difR g f L[j]).length = 0)) (fun i _ => L.length - (intOf i).toNat)
  case atStart => exact ⟨0, by omega, rfl, Ext.refl _, fun j _ hj => by omega⟩
  case round =>
    obtain ⟨k, hk, rfl, hE, hno⟩ := hrel
    have HE := hid hE
    by_cases hlt : k < L.length
    · obtain ⟨b, o, rfl, lb, hcell⟩ := p3 (by omega)
      have c0 := hE.cell (hcell k hlt 0 (.string L[k]) rfl)
      simp only [Nat.mul_one, Nat.add_zero] at c0
      have lbr := Nat.lt_of_lt_of_le lb hE.size
      have hpz := HLs.out _ (List.getElem_mem hlt)
      have hEw := HE4.out.trans hE
      have HS1 := fun W (hW : Ext wr W) => HSf W (hEw.trans hW) L[k] hpz
      have HS2 := fun W (hW : Ext wr W) => HSg W (hEw.trans hW) L[k] hpz
      have HT1 := fun W (hW : Ext wr W) x y (hx : Sl W 2 x ((selR f L[k]).map Rng.cells)) (hy : Sl W 2 y ((selR g L[k]).map Rng.cells)) => (hid ((HTf W L[k] x y hx hy).out.mono fun e w' ⟨v', he, hr, hx⟩ => ⟨v', he, ⟨hr.1, hr.2.early hW⟩, hx⟩) : Hid (Calls Tryz.prog 27 #[x, y, .int .i64 2] W (RetQ (fun v' w' => RowAt Rng.cells 2 (difR f g L[k]) v' w' ∧ Sz.Fresh wr v') W)))
      have HT2 := fun W (hW : Ext wr W) x y (hx : Sl W 2 x ((selR g L[k]).map Rng.cells)) (hy : Sl W 2 y ((selR f L[k]).map Rng.cells)) => (hid ((HTg W L[k] x y hx hy).out.mono fun e w' ⟨v', he, hr, hx⟩ => ⟨v', he, ⟨hr.1, hr.2.early hW⟩, hx⟩) : Hid (Calls Tryz.prog 27 #[x, y, .int .i64 2] W (RetQ (fun v' w' => RowAt Rng.cells 2 (difR g f L[k]) v' w' ∧ Sz.Fresh wr v') W)))
      have HN1 := hid (HNo.out L[k])
      have HNx : Hid ((difR f g L[k]).length = 0 ∧ (difR g f L[k]).length = 0 → ∀ j (hj : j < L.length), j < k + 1 → (difR f g L[j]).length = 0 ∧ (difR g f L[j]).length = 0) := fun e j hj hjk => by
        by_cases hjk' : j = k
        · subst hjk'; exact e
        · exact hno.out j hj (by omega)
      have hl1 : (difR f g L[k]).length ≤ 101 := form_len (diff_form _ _).1
      have hl2 : (difR g f L[k]).length ≤ 101 := form_len (diff_form _ _).1
      clear hcell p3 hE hno hEw HSf HSg HTf HTg HNo HYes HLs
      generalize difR f g L[k] = da at HT1 HN1 HNx hl1
      generalize difR g f L[k] = db at HT2 HN1 HNx hl2
      generalize selR f L[k] = sa at HS1 HT1 HT2
      generalize selR g L[k] = sb at HS2 HT1 HT2
      generalize L[k] = p at c0 HS1 HS2 hpz
      go_wp2_with fail
      refine wp_region_any_order (by kernel_rfl) (by kernel_rfl) (by kernel_rfl) ?_
      repeat (first
        | (refine AWq.val rfl rfl rfl rfl (fun K hK => ?_); go_big_quiet_op; refine hK _ ?_; clear hK K)
        | (refine AWq.skip rfl rfl rfl ?_; simp only [Act.put, List.setIfInBounds_toArray, List.set_cons_succ, List.set_cons_zero])
        | (refine AWq.callQ (RowAt Rng.cells 2 sa) (RowAt.steady _ _ _) rfl Tryz.func28 (by kernel_rfl) (by kernel_rfl) rfl rfl rfl (fun wc hc => ?_) ?_; (· (simp only [argsOf, anyAt, ↓reduceIte, Nat.reduceEqDiff, Array.getD_eq_getD_getElem?, List.getElem?_toArray, List.getElem?_cons_succ, List.getElem?_cons_zero, Option.getD_some]; with_reducible exact (HS1 _ hc).out)))
        | (refine AWq.callQ (RowAt Rng.cells 2 sb) (RowAt.steady _ _ _) rfl Tryz.func28 (by kernel_rfl) (by kernel_rfl) rfl rfl rfl (fun wc hc => ?_) ?_; (· (simp only [argsOf, anyAt, ↓reduceIte, Nat.reduceEqDiff, Array.getD_eq_getD_getElem?, List.getElem?_toArray, List.getElem?_cons_succ, List.getElem?_cons_zero, Option.getD_some]; with_reducible exact (HS2 _ hc).out)))
        | (refine AWq.callQ ((fun v w' => RowAt Rng.cells 2 da v w' ∧ Sz.Fresh wr v)) ((fun v _ _ he h => ⟨h.1.ext he, h.2⟩)) rfl Tryz.func27 (by kernel_rfl) (by kernel_rfl) rfl rfl rfl (fun wc hc => ?_) ?_; (· (simp only [argsOf, anyAt, ↓reduceIte, Nat.reduceEqDiff, Array.getD_eq_getD_getElem?, List.getElem?_toArray, List.getElem?_cons_succ, List.getElem?_cons_zero, Option.getD_some]; intro y hy z hz; have hy' := hy.1; have hz' := hz.1; with_reducible exact (HT1 _ hc _ _ hy' hz').out)))
        | (refine AWq.callQ ((fun v w' => RowAt Rng.cells 2 db v w' ∧ Sz.Fresh wr v)) ((fun v _ _ he h => ⟨h.1.ext he, h.2⟩)) rfl Tryz.func27 (by kernel_rfl) (by kernel_rfl) rfl rfl rfl (fun wc hc => ?_) ?_; (· (simp only [argsOf, anyAt, ↓reduceIte, Nat.reduceEqDiff, Array.getD_eq_getD_getElem?, List.getElem?_toArray, List.getElem?_cons_succ, List.getElem?_cons_zero, Option.getD_some]; intro y hy z hz; have hy' := hy.1; have hz' := hz.1; with_reducible exact (HT2 _ hc _ _ hy' hz').out)))
        | ((refine AWq.opQ (fun v _ => v = .int .i64 da.length) (fun v _ _ he h => h) rfl (fun a wc hc hl' => ⟨rfl, ?_⟩) ?_; (· (have e := hl' 33 (of_decide_eq_true (by kernel_rfl)); obtain ⟨A9, c9, hy, _⟩ := sl_get e.1.1; clear e hl'; go_simp; exact ⟨rfl, Ext.refl _⟩))))
        | ((refine AWq.opQ (fun v _ => v = .int .i64 db.length) (fun v _ _ he h => h) rfl (fun a wc hc hl' => ⟨rfl, ?_⟩) ?_; (· (have e := hl' 47 (of_decide_eq_true (by kernel_rfl)); obtain ⟨A9, c9, hy, _⟩ := sl_get e.1.1; clear e hl'; go_simp; exact ⟨rfl, Ext.refl _⟩))))
        | ((refine AWq.opQ (fun v _ => v = .int .i64 ((da.length : Int) + db.length)) (fun v _ _ he h => h) rfl (fun a wc hc hl' => ⟨rfl, ?_⟩) ?_; (· (have e1 : a.tmps.getD 34 undef = .int .i64 da.length := hl' 34 (of_decide_eq_true (by kernel_rfl)); have e2 : a.tmps.getD 48 undef = .int .i64 db.length := hl' 48 (of_decide_eq_true (by kernel_rfl)); clear hl'; go_simp; exact ⟨by rw [IntWalk.i64_in _ (by omega)], Ext.refl _⟩))))
        | ((refine AWq.opQ (fun v _ => v = .bool (decide ((0 : Int) < (da.length : Int) + db.length))) (fun v _ _ he h => h) rfl (fun a wc hc hl' => ⟨rfl, ?_⟩) ?_; (· (have e1 : a.tmps.getD 49 undef = .int .i64 ((da.length : Int) + db.length) := hl' 49 (of_decide_eq_true (by kernel_rfl)); clear hl'; go_simp; exact ⟨rfl, Ext.refl _⟩)))))
      refine AWq.done rfl rfl rfl (fun w6 x6 => ?_)
      simp only [closeAny, Act.put, List.setIfInBounds_toArray, List.set_cons_succ, List.set_cons_zero]
      intro u50 h50 _ _ _ _ _ _ _ _ _ _ _ _ _ _ _ _ _ _
      subst h50
      by_cases hz : da.length = 0 ∧ db.length = 0
      · have d0 : decide ((0 : Int) < (da.length : Int) + db.length) = false := by simp; omega
        have HNx := hid (HNx.out hz)
        clear HN1 hz HT1 HT2 HS1 HS2
        rw [d0]
        go_wp2_with fail
        go_roundw
        case rel => exact ⟨k + 1, by omega, by go_num, HE.out.trans x6, HNx.out⟩
        case measure => simp [intOf]; omega
      · have d0 : decide ((0 : Int) < (da.length : Int) + db.length) = true := by simp; omega
        have HN1 := hid (HN1.out hz)
        clear HNx hz HT1 HT2 HS1 HS2
        rw [d0]
        go_wp2_with fail
        go_ret
        exact ⟨by rw [HN1.out]; rfl, HE4.out.trans (HE.out.trans x6)⟩
    · obtain rfl : k = L.length := by omega
      have hr : Hid (r = true) := HYes.out fun p hp => by
        obtain ⟨j, hj, rfl⟩ := List.getElem_of_mem hp
        exact hno.out j hj hj
      clear hE p3 hno HYes HNo HLs HSf HSg HTf HTg
      go_wp2_with fail
      go_ret
      exact ⟨by rw [hr.out]; rfl, HE4.out.trans HE.out⟩
end Go.Proofs.YtggbkjmedoooaaaGreatDoor
