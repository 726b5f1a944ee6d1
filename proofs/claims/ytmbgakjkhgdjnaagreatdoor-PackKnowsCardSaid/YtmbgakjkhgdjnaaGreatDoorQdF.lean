/-
  vers.Sort, vers.Before, and the document's Put, Same: contracts.
  Slim twin of IsA, IsC: iset.Of; the document's Of.
-/
import Derived.Test.YtmbgakjkhgdjnaaGreatDoorCptk
import Derived.Test.YtmbgakjkhgdjnaaGreatDoorSoGk
import Derived.Test.YtmbgakjkhgdjnaaGreatDoorSoL
import Derived.Test.YtmbgakjkhgdjnaaGreatDoorQdE
namespace Go.Proofs.YtmbgakjkhgdjnaaGreatDoor
set_option linter.unusedSimpArgs false
set_option linter.unusedVariables false
open Go.RowKit Go.Sort

theorem ltOf_ver : ltOf cmpVer = Ver.lt := by funext a b; exact cmpVer_neg a b
theorem swo_ver : SWO (ltOf cmpVer) := by
  rw [ltOf_ver]
  refine ⟨Ver.strict.irrefl, Ver.strict.trans, fun a b c h1 h2 => ?_⟩
  simp only [Ver.lt, decide_eq_false_iff_not] at *
  omega
theorem order_e (a b : Ver) (W : World) : Calls Tryz.prog 182 #[a.val, b.val] W (Ret (.int .i64 (cmpVer a b)) W) := (D.order_c a b W).mono fun _ _ ⟨he, hx⟩ => ⟨he, hx.toBelow⟩
theorem sortVer_c {w : World} {B : Nat} {v : Value} {l : List Ver} (h : w.ownsRow B 60 2 v l.length (l.map Ver.cells).flatten) (hl : l.length ≤ 1000000) :
    Calls Tryz.prog 181 #[v, .func (.func 182) #[] #[]] w fun en w' => en = .returned (.tuple #[]) ∧ Keep (fun q => v.ownBlock = some q) w w' ∧ ∃ l' : List Ver, l'.Perm l ∧ l'.Pairwise (fun x y => ltOf cmpVer y x = false) ∧ w'.ownsRow B 60 2 v l'.length (l'.map Ver.cells).flatten :=
  sort_c (P := Tryz.prog) Tryz.sortVer Tryz.isAgg60 Tryz.sizeOf60 ver_coded.len ver_coded.one cmpVer swo_ver 182 (fun _ _ => run_callFunc Tryz.func182 (by kernel_rfl) (by kernel_rfl)) (fun W x y => D.order_g x y W) h hl

set_option maxHeartbeats 1000000 in
theorem vsort_c (w : World) (v : Value) (l : List Ver) (h : Sl w 2 v (l.map Ver.cells)) (hl : l.length ≤ 1000000) : Calls Tryz.prog 171 #[v] w (RetQ (RowAt Ver.cells 2 (setL Ver.lt l)) w) := by
  obtain ⟨v1, w1, hrun, hown, hkeep, _, hnil⟩ := app_row (P := Tryz.prog) (ty := 45) ver_elem (ownsRow_nil w w.heap.size 60 2) (Nat.le_refl _) (src_of_sl Tryz.underlying45 ver_coded h (Ext.refl w)) (by unfold maxLen; omega) (by omega)
  rw [List.nil_append, Nat.zero_add] at hown
  have HE : Hid (Ext w w1) := hkeep.toExt (Ext.refl w) (fun q hq => by cases hq)
  have HO := hid hown
  have HB : Hid (∀ q, v1.ownBlock = some q → w.heap.size ≤ q) := fun q hq => (row_block hown q hq).1
  have HN : Hid (l.length = 0 → v1 = .slice none 0 0) := fun h0 => hnil (by omega) rfl
  have HL := hid hl
  clear h hown hkeep hnil hl
  go_enter Tryz.func171, Tryz.ntmps171
  go_wp2_with (first
    | (at_builtin; refine wpList_app rfl (.const (.slice none 0 0)) (.tmp 4) _ _ rfl rfl rfl hrun ?_)
    | (go_at_call 181; refine (sortVer_c HO.out HL.out).mono ?_; rintro e w2 ⟨rfl, k2, l', hp, hs, ho2⟩; have K2 := hid k2; have P2 := hid hp; have S2 := hid hs; have O2 := hid ho2; clear k2 hp hs ho2)
    | (go_at_call 183; refine (compact_c _ _ _ _ (by rw [P2.out.length_eq]; exact HL.out) O2.out).mono ?_; rintro e w3 ⟨v3, rfl, k3, ho3, _, hn3⟩; have K3 := hid k3; have O3 := hid ho3; have N3 := hid hn3; clear k3 ho3 hn3))
  go_ret
  have e : Lib.compact l' = setL Ver.lt l := compact_sorted Ver.strict P2.out (by rw [← ltOf_ver]; exact S2.out)
  rw [e] at O3
  refine ⟨_, rfl, RowAt.of_row ver_coded O3.out fun h0 => N3.out (HN.out ?_), (K3.out.toExt (K2.out.toExt HE.out HB.out) HB.out)⟩
  have : setL Ver.lt l = [] := List.eq_nil_of_length_eq_zero h0
  rcases l with _ | ⟨x, l⟩
  · rfl
  · have := (mem_setL Ver.strict (x :: l) x).2 (by simp)
    simp_all

set_option maxRecDepth 100000 in
set_option maxHeartbeats 1000000 in
theorem rsame_c (w : World) (u v : Value) (l : List Ver) (hu : Sl w 2 u (l.map Ver.cells)) (hv : Sl w 2 v (l.map Ver.cells)) : Calls Tryz.prog 60 #[u, v] w (Ret (.bool true) w) := by
  obtain ⟨A, c, rfl, h1, h2, h3⟩ := sl_get hu
  obtain ⟨B, d, rfl, k1, k2, k3⟩ := sl_get hv
  clear hu hv
  unfold maxLen at h2 k2
  go_enter Tryz.func60, Tryz.ntmps60
  go_wp2_with fail
  go_loopw [5] (fun i wr => ∃ k : Nat, k ≤ l.length ∧ i = .int .i64 k ∧ Ext w wr) (fun i _ => l.length - (intOf i).toNat)
  case atStart => exact ⟨0, by omega, rfl, Ext.refl _⟩
  case round =>
    obtain ⟨k, hk, rfl, hE⟩ := hrel
    by_cases hlt : k < l.length
    · obtain ⟨b, o, rfl, lb, hcell⟩ := h3 (by omega)
      obtain ⟨b', o', rfl, lb', hcell'⟩ := k3 (by omega)
      have c0 := hE.cell (hcell k hlt 0 _ rfl)
      have c1 := hE.cell (hcell k hlt 1 _ rfl)
      have d0 := hE.cell (hcell' k hlt 0 _ rfl)
      have d1 := hE.cell (hcell' k hlt 1 _ rfl)
      rw [Nat.add_zero] at c0 d0
      have HE := hid hE
      clear hcell hcell' h3 k3 hE
      generalize l[k] = x at *
      have hs := eq2_self x.by_ x.n
      go_wp2_with fail
      go_quiet (fail)
      go_wp2_with fail
      exact ⟨⟨k + 1, by omega, by go_num, HE.out.drewN' _⟩, by simp [intOf]; omega⟩
    · have HE := hid hE
      clear hE h3 k3
      go_wp2_with fail
      go_ret
      exact ⟨rfl, HE.out⟩

set_option maxRecDepth 100000 in
set_option maxHeartbeats 2000000 in
theorem rput_c (w : World) (v : Value) (l : List Ver) (x : Ver) (h : RowAt Ver.cells 2 l v w) (hl : l.length < 1000000) : Calls Tryz.prog 149 #[v, x.val] w (RetQ (RowAt Ver.cells 2 (insL Ver.lt x l)) w) := by
  have hnil := h.2
  have HR := hid h
  obtain ⟨A, c, rfl, h1, h2, h3⟩ := sl_get h.1
  unfold maxLen at h2
  unfold Ver.val
  have HB : ∀ W (k : Nat) (h : k < l.length), Hid (Calls Tryz.prog 69 #[.agg #[.int .i64 l[k].by_, .int .i64 l[k].n], .agg #[.int .i64 x.by_, .int .i64 x.n]] W (Ret (.bool (l[k].lt x)) W)) := fun W k h => rbefore_c l[k] x W
  have hr := rankL_le (lt := Ver.lt) x l
  have hlow := rankL_lt (lt := Ver.lt) x l
  have hat := rankL_at (lt := Ver.lt) x l
  have HP : Hid (insL Ver.lt x l = if l[rankL Ver.lt x l]? = some x then l else l.take (rankL Ver.lt x l) ++ x :: l.drop (rankL Ver.lt x l)) := rfl
  have HN := hid hnil
  clear h hnil
  generalize rankL Ver.lt x l = r at hr hlow hat HP
  generalize insL Ver.lt x l = out at HP ⊢
  go_enter Tryz.func149, Tryz.ntmps149
  go_wp2_with fail
  have hE0 := Ext.alloc w (.cells #[.int .i64 x.by_, .int .i64 x.n] 60)
  have hB0 := Blk.new w 60 #[.int .i64 x.by_, .int .i64 x.n]
  generalize w.alloc (.cells #[.int .i64 x.by_, .int .i64 x.n] 60) = w0 at hE0 hB0 ⊢
  generalize w.heap.size = g0 at hB0 ⊢
  have x0 := hB0.cell (i := 0) (v := .int .i64 x.by_) rfl
  have x1 := hB0.cell (i := 1) (v := .int .i64 x.n) rfl
  have lg0 := hB0.lt
  clear hB0
  go_loopw [5] (fun i wr => ∃ k : Nat, k ≤ r ∧ i = .int .i64 k ∧ Ext w0 wr) (fun i _ => r - (intOf i).toNat)
  case atStart => exact ⟨0, by omega, rfl, Ext.refl _⟩
  case round =>
    obtain ⟨k, hk, rfl, hE⟩ := hrel
    have y0 := hE.cell x0
    have y1 := hE.cell x1
    have lg := Nat.lt_of_lt_of_le lg0 hE.size
    by_cases hlt : k < r
    · have hkl : k < l.length := by omega
      obtain ⟨b, o, rfl, lb, hcell⟩ := h3 (by omega)
      have c0 := (hE0.trans hE).cell (hcell k hkl 0 _ rfl)
      have c1 := (hE0.trans hE).cell (hcell k hkl 1 _ rfl)
      rw [Nat.add_zero] at c0
      have lbw := Nat.lt_of_lt_of_le lb (hE0.trans hE).size
      have HBk : ∀ W, Hid (Calls Tryz.prog 69 #[.agg #[.int .i64 l[k].by_, .int .i64 l[k].n], .agg #[.int .i64 x.by_, .int .i64 x.n]] W (Ret (.bool true) W)) := fun W => by
        have := HB W k hkl
        rwa [hlow k hkl hlt] at this
      have HE := hid hE
      clear hcell h3 hE HB hlow hat
      generalize l[k] = z at c0 c1 HBk
      go_wp2_with fail
      refine wp_region_any_order (by kernel_rfl) (by kernel_rfl) (by kernel_rfl) ?_
      repeat (first
        | (refine AWq.val rfl rfl rfl rfl (fun K hK => ?_); go_big_quiet_op; refine hK _ ?_; clear hK K)
        | (refine AWq.skip rfl rfl rfl ?_; simp only [Act.put, List.setIfInBounds_toArray, List.set_cons_succ, List.set_cons_zero])
        | (refine AWq.call rfl Tryz.func69 (by kernel_rfl) (by kernel_rfl) rfl rfl rfl ?_; apply Exists.intro; refine And.intro (fun wc hc => ?_) ?_; (· (simp only [argsOf, anyAt, ↓reduceIte, Nat.reduceEqDiff, Array.getD_eq_getD_getElem?, List.getElem?_toArray, List.getElem?_cons_succ, List.getElem?_cons_zero, Option.getD_some]; with_reducible exact (HBk _).out)); simp only [Act.put, List.setIfInBounds_toArray, List.set_cons_succ, List.set_cons_zero]))
      refine AWq.done rfl rfl rfl (fun w2 z2 => ?_)
      simp only [closeAny, Act.put, List.setIfInBounds_toArray, List.set_cons_succ, List.set_cons_zero]
      go_wp2_with fail
      go_roundw
      case rel => exact ⟨k + 1, by omega, by go_num, HE.out.trans z2⟩
      case measure => simp [intOf]; omega
    · obtain rfl : k = r := by omega
      by_cases hkl : k < l.length
      · obtain ⟨b, o, rfl, lb, hcell⟩ := h3 (by omega)
        have c0 := (hE0.trans hE).cell (hcell k hkl 0 _ rfl)
        have c1 := (hE0.trans hE).cell (hcell k hkl 1 _ rfl)
        rw [Nat.add_zero] at c0
        have HBk : ∀ W, Hid (Calls Tryz.prog 69 #[.agg #[.int .i64 l[k].by_, .int .i64 l[k].n], .agg #[.int .i64 x.by_, .int .i64 x.n]] W (Ret (.bool false) W)) := fun W => by
          have := HB W k hkl
          rwa [hat hkl] at this
        have HE := hid (hE0.trans hE)
        have HL := hid hcell
        have HQ : Hid (l[k]? = some l[k]) := List.getElem?_eq_getElem hkl
        have lbw := Nat.lt_of_lt_of_le lb (hE0.trans hE).size
        clear hcell h3 hE HB hlow hat hlt
        generalize l[k] = z at c0 c1 HBk HQ
        go_wp2_with fail
        refine wp_region_any_order (by kernel_rfl) (by kernel_rfl) (by kernel_rfl) ?_
        repeat (first
          | (refine AWq.val rfl rfl rfl rfl (fun K hK => ?_); go_big_quiet_op; refine hK _ ?_; clear hK K)
          | (refine AWq.skip rfl rfl rfl ?_; simp only [Act.put, List.setIfInBounds_toArray, List.set_cons_succ, List.set_cons_zero])
          | (refine AWq.call rfl Tryz.func69 (by kernel_rfl) (by kernel_rfl) rfl rfl rfl ?_; apply Exists.intro; refine And.intro (fun wc hc => ?_) ?_; (· (simp only [argsOf, anyAt, ↓reduceIte, Nat.reduceEqDiff, Array.getD_eq_getD_getElem?, List.getElem?_toArray, List.getElem?_cons_succ, List.getElem?_cons_zero, Option.getD_some]; with_reducible exact (HBk _).out)); simp only [Act.put, List.setIfInBounds_toArray, List.set_cons_succ, List.set_cons_zero]))
        refine AWq.done rfl rfl rfl (fun w2 z2 => ?_)
        simp only [closeAny, Act.put, List.setIfInBounds_toArray, List.set_cons_succ, List.set_cons_zero]
        have d0 := z2.cell c0
        have d1 := z2.cell c1
        have e0 := z2.cell y0
        have e1 := z2.cell y1
        have HE2 := hid (HE.out.trans z2)
        have lg2 := Nat.lt_of_lt_of_le lg z2.size
        have lb2 := Nat.lt_of_lt_of_le lbw z2.size
        clear c0 c1 y0 y1 z2 HBk
        by_cases hz : z = x
        · subst hz
          have hs := eq2_self z.by_ z.n
          go_wp2_with fail
          go_quiet (fail)
          go_wp2_with fail
          go_ret
          refine ⟨_, rfl, ?_, HE2.out.drewN' _⟩
          rw [HP.out, if_pos HQ.out]
          exact HR.out.ext (HE2.out.drewN' _)
        · have hs : eq2 z.by_ z.n x.by_ x.n = false := by rw [Bool.eq_false_iff, Ne, eq2_iff]; exact hz
          go_wp2_with fail
          go_quiet (fail)
          have HE3 := hid (HE2.out.drewN' nq)
          have lb3 : b < (w2.drewN nq).heap.size := lb2
          obtain ⟨va, wa, vb, wb, vc, wc, ra, rb, rc, o2, ex, ea⟩ := app_three (P := Tryz.prog) ver_elem (wr := w2.drewN nq) k (l.length - k) ((l.take k).map Ver.cells).flatten ((l.drop k).map Ver.cells).flatten x.cells (.slice (some ⟨b, o, none⟩) k c) (.slice (if c = k then some ⟨b, o, none⟩ else some ⟨b, o + k * 2, none⟩) (l.length - k) (c - k)) (by omega) (by omega) (by omega) rfl (ver_coded.one x)
            (fun W hW => src_take Tryz.underlying45 ver_coded HL.out k c (by omega) (HE3.out.trans hW)) (fun W hW => src_drop Tryz.underlying45 ver_coded HL.out k c (by omega) h1 (HE3.out.trans hW))
          have HO := hid o2
          have HX := hid ex
          have hck : ¬ c = k := by omega
          have hout : out = l.take k ++ x :: l.drop k := by rw [HP.out, if_neg (by rw [HQ.out]; exact fun e => hz (Option.some.inj e))]
          have HLen : Hid (out.length = k + 1 + (l.length - k)) := by unfold Hid; rw [hout]; simp; omega
          have HFl : Hid ((out.map Ver.cells).flatten = ((l.take k).map Ver.cells).flatten ++ x.cells ++ ((l.drop k).map Ver.cells).flatten) := by unfold Hid; rw [hout]; simp
          rw [if_neg hck] at rc
          unfold Ver.cells at rb
          have f0 : wa.cell? ⟨g0, 0, none⟩ = some (.int .i64 x.by_) := ea.cell (p := ⟨g0, 0, none⟩) e0
          have f1 : wa.cell? ⟨g0, 1, none⟩ = some (.int .i64 x.n) := ea.cell (p := ⟨g0, 1, none⟩) e1
          clear o2 ex ea hout hz
          generalize w2.drewN nq = wr2 at *
          go_wp2_with (first
            | (at_builtin; refine wpList_app rfl (.tmp 34) (.tmp 37) _ _ rfl rfl rfl ra ?_)
            | (at_builtin; refine wpList_app rfl (.tmp 39) (.tmp 41) _ _ rfl rfl rfl rb ?_)
            | (at_builtin; refine wpList_app rfl (.tmp 43) (.tmp 46) _ _ rfl rfl rfl rc ?_))
          all_goals go_ret
          all_goals exact ⟨_, rfl, RowAt.of_row (e := 60) ver_coded (by rw [HLen.out, HFl.out]; exact HO.out) (fun h0 => by rw [HLen.out] at h0; omega), HE3.out.trans HX.out⟩
      · have HE := hid (hE0.trans hE)
        by_cases h0 : l.length = 0
        · have hnil := HN.out h0
          injection hnil with hA hn hc0
          subst hA hc0
          have hl0 : l = [] := List.eq_nil_of_length_eq_zero h0
          subst hl0
          have hk0 : k = 0 := by omega
          subst hk0
          have hout : out = [x] := by rw [HP.out]; simp
          have HLen : Hid (out.length = 0 + 1 + 0) := by unfold Hid; rw [hout]; rfl
          have HFl : Hid ((out.map Ver.cells).flatten = [] ++ x.cells ++ []) := by unfold Hid; rw [hout]; simp
          clear hout h3 hE HB hlow hat hlt HN HP HR
          go_wp2_with fail
          refine wp_region_any_order (by kernel_rfl) (by kernel_rfl) (by kernel_rfl) ?_
          repeat (first
            | (refine AWq.val rfl rfl rfl rfl (fun K hK => ?_); go_big_quiet_op; refine hK _ ?_; clear hK K)
            | (refine AWq.skip rfl rfl rfl ?_; simp only [Act.put, List.setIfInBounds_toArray, List.set_cons_succ, List.set_cons_zero]))
          refine AWq.done rfl rfl rfl (fun w2 z2 => ?_)
          simp only [closeAny, Act.put, List.setIfInBounds_toArray, List.set_cons_succ, List.set_cons_zero]
          go_wp2_with fail
          refine wp_region_any_order (by kernel_rfl) (by kernel_rfl) (by kernel_rfl) ?_
          repeat (first
            | (refine AWq.val rfl rfl rfl rfl (fun K hK => ?_); go_big_quiet_op; refine hK _ ?_; clear hK K)
            | (refine AWq.skip rfl rfl rfl ?_; simp only [Act.put, List.setIfInBounds_toArray, List.set_cons_succ, List.set_cons_zero]))
          refine AWq.done rfl rfl rfl (fun w3 z3 => ?_)
          simp only [closeAny, Act.put, List.setIfInBounds_toArray, List.set_cons_succ, List.set_cons_zero]
          have HE3 := hid (HE.out.trans (z2.trans z3))
          have e0 := (z2.trans z3).cell y0
          have e1 := (z2.trans z3).cell y1
          clear z2 z3
          obtain ⟨va, wa, vb, wb, vc, wc, ra, rb, rc, o2, ex, ea⟩ := app_three (P := Tryz.prog) ver_elem (wr := w3) 0 0 [] [] x.cells (.slice none 0 0) (.slice none 0 0) (by omega) (by omega) (by omega) rfl (ver_coded.one x)
            (fun W hW => Src.ofNil W Tryz.underlying45 0) (fun W hW => Src.ofNil W Tryz.underlying45 0)
          have HO := hid o2
          have HX := hid ex
          have f0 := ea.cell e0
          have f1 := ea.cell e1
          unfold Ver.cells at rb
          clear o2 ex ea
          go_wp2_with (first
            | (at_builtin; refine wpList_app rfl (.tmp 34) (.tmp 37) _ _ rfl rfl rfl ra ?_)
            | (at_builtin; refine wpList_app rfl (.tmp 39) (.tmp 41) _ _ rfl rfl rfl rb ?_)
            | (at_builtin; refine wpList_app rfl (.tmp 43) (.tmp 46) _ _ rfl rfl rfl rc ?_))
          all_goals go_ret
          all_goals exact ⟨_, rfl, RowAt.of_row (e := 60) ver_coded (by rw [HLen.out, HFl.out]; exact HO.out) (fun h0 => by rw [HLen.out] at h0; omega), HE3.out.trans HX.out⟩
        · obtain ⟨b, o, rfl, lb, hcell⟩ := h3 (by omega)
          have HL := hid hcell
          have hout : out = l.take k ++ x :: l.drop k := by rw [HP.out, if_neg (by rw [List.getElem?_eq_none (by omega)]; simp)]
          have HLen : Hid (out.length = k + 1 + (l.length - k)) := by unfold Hid; rw [hout]; simp; omega
          have HFl : Hid ((out.map Ver.cells).flatten = ((l.take k).map Ver.cells).flatten ++ x.cells ++ ((l.drop k).map Ver.cells).flatten) := by unfold Hid; rw [hout]; simp
          clear hcell h3 hE HB hlow hat hlt HP HR hout
          go_wp2_with fail
          refine wp_region_any_order (by kernel_rfl) (by kernel_rfl) (by kernel_rfl) ?_
          repeat (first
            | (refine AWq.val rfl rfl rfl rfl (fun K hK => ?_); go_big_quiet_op; refine hK _ ?_; clear hK K)
            | (refine AWq.skip rfl rfl rfl ?_; simp only [Act.put, List.setIfInBounds_toArray, List.set_cons_succ, List.set_cons_zero]))
          refine AWq.done rfl rfl rfl (fun w2 z2 => ?_)
          simp only [closeAny, Act.put, List.setIfInBounds_toArray, List.set_cons_succ, List.set_cons_zero]
          go_wp2_with fail
          refine wp_region_any_order (by kernel_rfl) (by kernel_rfl) (by kernel_rfl) ?_
          repeat (first
            | (refine AWq.val rfl rfl rfl rfl (fun K hK => ?_); go_big_quiet_op; refine hK _ ?_; clear hK K)
            | (refine AWq.skip rfl rfl rfl ?_; simp only [Act.put, List.setIfInBounds_toArray, List.set_cons_succ, List.set_cons_zero]))
          refine AWq.done rfl rfl rfl (fun w3 z3 => ?_)
          simp only [closeAny, Act.put, List.setIfInBounds_toArray, List.set_cons_succ, List.set_cons_zero]
          have HE3 := hid (HE.out.trans (z2.trans z3))
          have e0 := (z2.trans z3).cell y0
          have e1 := (z2.trans z3).cell y1
          clear z2 z3
          obtain ⟨va, wa, vb, wb, vc, wc, ra, rb, rc, o2, ex, ea⟩ := app_three (P := Tryz.prog) ver_elem (wr := w3) k (l.length - k) ((l.take k).map Ver.cells).flatten ((l.drop k).map Ver.cells).flatten x.cells (.slice (some ⟨b, o, none⟩) k c) (.slice (if c = k then some ⟨b, o, none⟩ else some ⟨b, o + k * 2, none⟩) (l.length - k) (c - k)) (by omega) (by omega) (by omega) rfl (ver_coded.one x)
            (fun W hW => src_take Tryz.underlying45 ver_coded HL.out k c (by omega) (HE3.out.trans hW)) (fun W hW => src_drop Tryz.underlying45 ver_coded HL.out k c (by omega) h1 (HE3.out.trans hW))
          have HO := hid o2
          have HX := hid ex
          have f0 := ea.cell e0
          have f1 := ea.cell e1
          unfold Ver.cells at rb
          clear o2 ex ea
          go_wp2_with (first
            | (at_builtin; refine wpList_app rfl (.tmp 34) (.tmp 37) _ _ rfl rfl rfl ra ?_)
            | (at_builtin; refine wpList_app rfl (.tmp 39) (.tmp 41) _ _ rfl rfl rfl rb ?_)
            | (at_builtin; refine wpList_app rfl (.tmp 43) (.tmp 46) _ _ rfl rfl rfl rc ?_))
          all_goals go_ret
          all_goals exact ⟨_, rfl, RowAt.of_row (e := 60) ver_coded (by rw [HLen.out, HFl.out]; exact HO.out) (fun h0 => by rw [HLen.out] at h0; omega), HE3.out.trans HX.out⟩
end Go.Proofs.YtmbgakjkhgdjnaaGreatDoor
namespace Go.Proofs.YtmbgakjkhgdjnaaGreatDoor
set_option linter.unusedSimpArgs false
set_option linter.unusedVariables false
open Go.RowKit

set_option maxRecDepth 100000 in
set_option maxHeartbeats 1000000 in
theorem rof_c (w : World) (v : Value) (l : List Ver) (h : Sl w 2 v (l.map Ver.cells)) (hl : l.length ≤ 100000) : Calls Tryz.prog 106 #[v] w (RetQ (RowAt Ver.cells 2 (setL Ver.lt l)) w) := by
  obtain ⟨A, c, rfl, h1, h2, h3⟩ := sl_get h
  unfold maxLen at h2
  clear h
  go_enter Tryz.func106, Tryz.ntmps106
  go_wp2_with fail
  go_loopw [3, 4] (fun v i wr => ∃ k : Nat, k ≤ l.length ∧ i = .int .i64 k ∧ Ext w wr ∧ RowAt Ver.cells 2 (setL Ver.lt (l.take k)) v wr) (fun _ i _ => l.length - (intOf i).toNat)
  case atStart => exact ⟨0, by omega, rfl, Ext.refl _, RowAt.nil _⟩
  case round =>
    obtain ⟨k, hk, rfl, hE, hR⟩ := hrel
    by_cases hlt : k < l.length
    · obtain ⟨b, o, rfl, lb, hcell⟩ := h3 (by omega)
      have c0 := hE.cell (hcell k hlt 0 _ rfl)
      have c1 := hE.cell (hcell k hlt 1 _ rfl)
      rw [Nat.add_zero] at c0
      have HP := hid (rput_c wr u3 (setL Ver.lt (l.take k)) l[k] hR (by have := setL_length Ver.strict (l.take k); rw [List.length_take] at this; omega))
      have HS := hid (setL_take (lt := Ver.lt) l k hlt)
      have HE := hid hE
      clear hE hR hcell h3
      generalize l[k] = z at c0 c1 HP HS
      unfold Ver.val at HP
      go_wp2_with (go_at_call 149; refine (HP.out).mono ?_; rintro e w' ⟨v', rfl, hv', hx⟩; have HV := hid hv'; have HX := hid hx; clear hv' hx)
      go_roundw
      case rel => exact ⟨k + 1, by omega, by go_num, HE.out.trans HX.out, by rw [HS.out]; exact HV.out⟩
      case measure => simp [intOf]; omega
    · obtain rfl : k = l.length := by omega
      rw [List.take_length] at hR
      have HR := hid hR
      have HE := hid hE
      clear hE hR h3
      go_wp2_with fail
      go_ret
      exact ⟨_, rfl, HR.out, HE.out⟩
set_option maxHeartbeats 400000 in
theorem iof_c (w : World) (v : Value) (l : List Ver) (h : Sl w 2 v (l.map Ver.cells)) (hl : l.length ≤ 1000000) : Calls Tryz.prog 146 #[v] w (RetQ (RowAt Ver.cells 2 (setL Ver.lt l)) w) := by
  have HS := hid (vsort_c w v l h hl)
  obtain ⟨A, c, rfl, _⟩ := sl_get h
  clear h
  generalize setL Ver.lt l = r at HS ⊢
  go_enter Tryz.func146, Tryz.ntmps146
  go_wp2_with (go_at_call 171; refine (HS.out).mono ?_; rintro e w' ⟨v', rfl, hv', hx⟩)
  go_ret
  exact ⟨_, rfl, hv', hx⟩
end Go.Proofs.YtmbgakjkhgdjnaaGreatDoor
