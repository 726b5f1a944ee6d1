/-
  The document's One, Of; High, Low.
-/
import Derived.Test.YtefgjkaoidifbaaTaK
import Derived.Test.YtefgjkaoidifbaaTaR
namespace Go.Proofs.Ytefgjkaoidifbaa
set_option linter.unusedSimpArgs false
set_option linter.unusedVariables false
open Go.RowKit Go.Maps

set_option maxHeartbeats 400000 in
theorem low_c (a b : Int) (w : World) : Calls Try.prog 43 #[.int .i64 a, .int .i64 b] w (Ret (.int .i64 (min a b)) w) := by
  go_enter Try.func43, Try.ntmps43
  go_wp2_with fail
  all_goals go_ret
  all_goals refine ⟨?_, Ext.refl _⟩
  all_goals congr 2
  all_goals simp_all
  all_goals omega
set_option maxHeartbeats 400000 in
theorem high_c (a b : Int) (w : World) : Calls Try.prog 24 #[.int .i64 a, .int .i64 b] w (Ret (.int .i64 (max a b)) w) := by
  go_enter Try.func24, Try.ntmps24
  go_wp2_with fail
  all_goals go_ret
  all_goals refine ⟨?_, Ext.refl _⟩
  all_goals congr 2
  all_goals simp_all
  all_goals omega

def RepI.val (r : RepI) : Value := .agg #[.int .i64 r.e, .string r.s, .int .i64 r.v1, .int .i64 r.v2, .int .i64 r.n0, .int .i64 r.n1, .int .i64 r.n2, .int .i64 r.n3, .slice r.kb r.kl r.kc]
def ActI.val (a : ActI) : Value := .agg #[.int .i64 a.kind, .int .i64 a.by_, .int .i64 a.k, .string a.p, .string a.q, .int .i64 a.v1, .int .i64 a.v2, .slice a.kb a.kl a.kc]
theorem third (w : World) (a b d : Obj) (t : TypeId) (cs : Array Value) : Blk ((((w.alloc a).alloc b).alloc (.cells cs t)).alloc d) (w.heap.size + 1 + 1) t cs := by
  have := (Blk.new ((w.alloc a).alloc b) t cs).alloc d
  simpa only [World.size_alloc] using this
set_option maxRecDepth 100000 in
set_option maxHeartbeats 1000000 in
theorem one_c (a : ActI) (r : RepI) (w : World) : Calls Try.prog 72 #[a.val, r.val] w (Ret (oneC a (some r)).val w) := by
  obtain ⟨ve, hve⟩ : ∃ ve, repE r = ve := ⟨_, rfl⟩
  obtain ⟨vv, hvv⟩ : ∃ vv, eq2 r.v1 r.v2 0 0 = vv := ⟨_, rfl⟩
  have hr : repV r = !vv := by unfold repV; rw [hvv]
  have e : (oneC a (some r)).val = .agg #[.int .i64 a.kind, .int .i64 1, .int .i64 (bitI ve), .int .i64 (bitI (!vv))] := by
    rw [← hve, ← hr]; rfl
  rw [e]
  unfold ActI.val RepI.val
  have hd : (r.e != 0) = ve := hve
  clear hve hr e
  go_enter Try.func72, Try.ntmps72
  cases ve <;> cases vv
  all_goals go_wp2_with fail
  all_goals exact bodyPost_ret (results_cell_row rfl _ _ (w.heap.size + 1 + 1) 58 _ (0, 0) _ rfl (third w _ _ _ _ _) Try.underlying58 rfl (show (Try.prog.info? 58).map (·.size) = some 4 by kernel_rfl)) rfl ⟨rfl, (((Ext.alloc _ _).alloc' _).alloc' _).alloc' _⟩
def rep0 : RepI := ⟨0, ⟨#[]⟩, 0, 0, 0, 0, 0, 0, none, 0, 0⟩
theorem oneC_none (a : ActI) : oneC a none = oneC a (some rep0) := rfl
set_option maxRecDepth 100000 in
set_option maxHeartbeats 2000000 in
theorem rof_c (w : World) (v u : Value) (l : List ActI) (r : List RepI) (h : Sl w 8 v (l.map ActI.cells)) (hr : Sl w 9 u (r.map RepI.cells)) (hl : l.length ≤ 100) : Calls Try.prog 45 #[v, u] w (RetQ (RowAt Cnt.cells 4 (gat (cnts l r))) w) := by
  obtain ⟨A, c, rfl, h1, h2, h3⟩ := sl_get h
  obtain ⟨A', c', rfl, k1, k2, k3⟩ := sl_get hr
  unfold maxLen at h2 k2
  clear h hr
  go_enter Try.func45, Try.ntmps45
  go_wp2_with fail
  go_loopw [5, 6] (fun v i wr => ∃ (k : Nat) (ov : Value), k ≤ l.length ∧ i = .int .i64 k ∧ ov = v ∧ Ext w wr ∧ RowAt Cnt.cells 4 (gat ((cnts l r).take k)) ov wr) (fun _ i _ => l.length - (intOf i).toNat)
  case atStart => exact ⟨0, _, by omega, rfl, rfl, Ext.refl _, by rw [List.take_zero, gat_nil]; exact RowAt.nil _⟩
  case round =>
    obtain ⟨k, v, hk, rfl, rfl, hE, hR⟩ := hrel
    have HE := hid hE
    by_cases hlt : k < l.length
    · obtain ⟨b, o, rfl, lb, hcell⟩ := h3 (by omega)
      have c0 := hE.cell (hcell k hlt 0 _ rfl)
      have c1 := hE.cell (hcell k hlt 1 _ rfl)
      have c2 := hE.cell (hcell k hlt 2 _ rfl)
      have c3 := hE.cell (hcell k hlt 3 _ rfl)
      have c4 := hE.cell (hcell k hlt 4 _ rfl)
      have c5 := hE.cell (hcell k hlt 5 _ rfl)
      have c6 := hE.cell (hcell k hlt 6 _ rfl)
      have c7 := hE.cell (hcell k hlt 7 _ rfl)
      rw [Nat.add_zero] at c0
      have lbr := Nat.lt_of_lt_of_le lb hE.size
      have hT : gat ((cnts l r).take (k + 1)) = putC (oneC l[k] r[k]?) (gat ((cnts l r).take k)) := by rw [cnts_take_succ l r k hlt, gat_snoc]
      have hgl := gat_len ((cnts l r).take k)
      rw [List.length_take] at hgl
      have hbd : ∀ y ∈ gat ((cnts l r).take k), Bd 1000000000000000 y := fun y hy => by
        have h1 := gat_one_bd (B := 1) (by omega) (fun x hx => (cnts_mem (List.mem_of_mem_take hx)).1) y hy
        rw [List.length_take] at h1
        unfold Bd at *
        omega
      have hob := oneC_bd l[k] r[k]?
      have HPut : Hid (∀ W, Ext wr W → Calls Try.prog 49 #[v, (oneC l[k] r[k]?).val] W (RetQ (RowAt Cnt.cells 4 (gat ((cnts l r).take (k + 1)))) W)) := fun W hW => by
        rw [hT]
        exact (cput_c W v _ _ (hR.ext hW) (by omega) (by unfold Bd at *; omega) hbd).mono fun e w' ⟨v', he, h1, _, h2⟩ => ⟨v', he, h1, h2⟩
      have hOne := fun y W => one_c l[k] y W
      unfold ActI.val RepI.val at hOne
      clear hE hcell h3 hR hT hbd hob hgl
      by_cases hkr : k < r.length
      · obtain ⟨b', o', rfl, lb', hcell⟩ := k3 (by omega)
        have d0 := HE.out.cell (hcell k hkr 0 _ rfl)
        have d1 := HE.out.cell (hcell k hkr 1 _ rfl)
        have d2 := HE.out.cell (hcell k hkr 2 _ rfl)
        have d3 := HE.out.cell (hcell k hkr 3 _ rfl)
        have d4 := HE.out.cell (hcell k hkr 4 _ rfl)
        have d5 := HE.out.cell (hcell k hkr 5 _ rfl)
        have d6 := HE.out.cell (hcell k hkr 6 _ rfl)
        have d7 := HE.out.cell (hcell k hkr 7 _ rfl)
        have d8 := HE.out.cell (hcell k hkr 8 _ rfl)
        rw [Nat.add_zero] at d0
        have lbr' := Nat.lt_of_lt_of_le lb' HE.out.size
        rw [List.getElem?_eq_getElem hkr] at HPut
        have HOne := hid (hOne r[k])
        clear hcell k3 hOne
        generalize r[k] = y at d0 d1 d2 d3 d4 d5 d6 d7 d8 HPut HOne
        generalize l[k] = z at c0 c1 c2 c3 c4 c5 c6 c7 HPut HOne
        generalize oneC z (some y) = x at HPut HOne
        go_wp2_with fail
        clear d0 d1 d2 d3 d4 d5 d6 d7 d8 lbr'
        have e1 := Ext.alloc wr (.cells #[.int .i64 y.e, .string y.s, .int .i64 y.v1, .int .i64 y.v2, .int .i64 y.n0, .int .i64 y.n1, .int .i64 y.n2, .int .i64 y.n3, .slice y.kb y.kl y.kc] 77)
        have hB := Blk.new wr 77 #[.int .i64 y.e, .string y.s, .int .i64 y.v1, .int .i64 y.v2, .int .i64 y.n0, .int .i64 y.n1, .int .i64 y.n2, .int .i64 y.n3, .slice y.kb y.kl y.kc]
        obtain ⟨q, hq⟩ : ∃ q, q = wr.heap.size := ⟨_, rfl⟩
        rw [← hq] at hB ⊢
        generalize wr.alloc (.cells #[.int .i64 y.e, .string y.s, .int .i64 y.v1, .int .i64 y.v2, .int .i64 y.n0, .int .i64 y.n1, .int .i64 y.n2, .int .i64 y.n3, .slice y.kb y.kl y.kc] 77) = w1 at e1 hB ⊢
        have p0 := hB.cell (i := 0) (v := .int .i64 y.e) rfl
        have p1 := hB.cell (i := 1) (v := .string y.s) rfl
        have p2 := hB.cell (i := 2) (v := .int .i64 y.v1) rfl
        have p3 := hB.cell (i := 3) (v := .int .i64 y.v2) rfl
        have p4 := hB.cell (i := 4) (v := .int .i64 y.n0) rfl
        have p5 := hB.cell (i := 5) (v := .int .i64 y.n1) rfl
        have p6 := hB.cell (i := 6) (v := .int .i64 y.n2) rfl
        have p7 := hB.cell (i := 7) (v := .int .i64 y.n3) rfl
        have p8 := hB.cell (i := 8) (v := .slice y.kb y.kl y.kc) rfl
        have lq := hB.lt
        have la := Nat.lt_of_lt_of_le lbr e1.size
        have a0 := e1.cell c0
        have a1 := e1.cell c1
        have a2 := e1.cell c2
        have a3 := e1.cell c3
        have a4 := e1.cell c4
        have a5 := e1.cell c5
        have a6 := e1.cell c6
        have a7 := e1.cell c7
        have HE1 := hid e1
        clear c0 c1 c2 c3 c4 c5 c6 c7 lbr hB e1 hq
        refine wp_region_any_order (by kernel_rfl) (by kernel_rfl) (by kernel_rfl) ?_
        repeat (first
          | (refine AWq.val rfl rfl rfl rfl (fun K hK => ?_); go_big_quiet_op; refine hK _ ?_; clear hK K)
          | (refine AWq.skip rfl rfl rfl ?_; simp only [Act.put, List.setIfInBounds_toArray, List.set_cons_succ, List.set_cons_zero])
          | (refine AWq.call rfl Try.func72 (by kernel_rfl) (by kernel_rfl) rfl rfl rfl ?_; apply Exists.intro; refine And.intro (fun wc hc => ?_) ?_; (· (simp only [argsOf, anyAt, ↓reduceIte, Nat.reduceEqDiff, Array.getD_eq_getD_getElem?, List.getElem?_toArray, List.getElem?_cons_succ, List.getElem?_cons_zero, Option.getD_some]; with_reducible exact (HOne.out _))); simp only [Act.put, List.setIfInBounds_toArray, List.set_cons_succ, List.set_cons_zero])
          | (refine AWq.callQ (RowAt Cnt.cells 4 (gat ((cnts l r).take (k + 1)))) (RowAt.steady _ _ _) rfl Try.func49 (by kernel_rfl) (by kernel_rfl) rfl rfl rfl (fun wc hc => ?_) ?_; (· (simp only [argsOf, anyAt, ↓reduceIte, Nat.reduceEqDiff, Array.getD_eq_getD_getElem?, List.getElem?_toArray, List.getElem?_cons_succ, List.getElem?_cons_zero, Option.getD_some]; exact HPut.out _ (HE1.out.trans hc))))
          | (refine AWq.opQ (RowAt Cnt.cells 4 (gat ((cnts l r).take (k + 1)))) (RowAt.steady _ _ _) rfl (fun a wc hc hl' => ⟨rfl, ?_⟩) ?_; (· (have e := hl' 30 (of_decide_eq_true (by kernel_rfl)); exact ⟨e, Ext.refl _⟩))))
        refine AWq.done rfl rfl rfl (fun w2 x2 => ?_)
        simp only [closeAny, Act.put, List.setIfInBounds_toArray, List.set_cons_succ, List.set_cons_zero]
        intro u1 hu1 u2 hu2
        have HU := hid hu1
        have HU2 := hid hu2
        have HX := hid (HE.out.trans (HE1.out.trans x2))
        clear hu1 hu2 x2 p0 p1 p2 p3 p4 p5 p6 p7 p8 a0 a1 a2 a3 a4 a5 a6 a7
        go_wp2_with fail
        go_roundw
        case rel => exact ⟨k + 1, _, by omega, by go_num, rfl, HX.out, by first | exact HU.out | exact HU2.out⟩
        case measure => simp [intOf]; omega
      · rw [List.getElem?_eq_none (by omega), oneC_none] at HPut
        obtain ⟨y, hy⟩ : ∃ y, y = rep0 := ⟨_, rfl⟩
        have hOne := hOne y
        rw [← hy] at HPut
        have hcs : (.cells #[.int .i64 0, .string ⟨#[]⟩, .int .i64 0, .int .i64 0, .int .i64 0, .int .i64 0, .int .i64 0, .int .i64 0, .slice none 0 0] 77 : Obj) = .cells #[.int .i64 y.e, .string y.s, .int .i64 y.v1, .int .i64 y.v2, .int .i64 y.n0, .int .i64 y.n1, .int .i64 y.n2, .int .i64 y.n3, .slice y.kb y.kl y.kc] 77 := by rw [hy]; rfl
        have HOne := hid hOne
        clear k3 hOne hy
        generalize l[k] = z at c0 c1 c2 c3 c4 c5 c6 c7 HPut HOne
        generalize oneC z (some y) = x at HPut HOne
        go_wp2_with fail
        try rw [hcs]
        clear hcs
        have e1 := Ext.alloc wr (.cells #[.int .i64 y.e, .string y.s, .int .i64 y.v1, .int .i64 y.v2, .int .i64 y.n0, .int .i64 y.n1, .int .i64 y.n2, .int .i64 y.n3, .slice y.kb y.kl y.kc] 77)
        have hB := Blk.new wr 77 #[.int .i64 y.e, .string y.s, .int .i64 y.v1, .int .i64 y.v2, .int .i64 y.n0, .int .i64 y.n1, .int .i64 y.n2, .int .i64 y.n3, .slice y.kb y.kl y.kc]
        obtain ⟨q, hq⟩ : ∃ q, q = wr.heap.size := ⟨_, rfl⟩
        rw [← hq] at hB ⊢
        generalize wr.alloc (.cells #[.int .i64 y.e, .string y.s, .int .i64 y.v1, .int .i64 y.v2, .int .i64 y.n0, .int .i64 y.n1, .int .i64 y.n2, .int .i64 y.n3, .slice y.kb y.kl y.kc] 77) = w1 at e1 hB ⊢
        have p0 := hB.cell (i := 0) (v := .int .i64 y.e) rfl
        have p1 := hB.cell (i := 1) (v := .string y.s) rfl
        have p2 := hB.cell (i := 2) (v := .int .i64 y.v1) rfl
        have p3 := hB.cell (i := 3) (v := .int .i64 y.v2) rfl
        have p4 := hB.cell (i := 4) (v := .int .i64 y.n0) rfl
        have p5 := hB.cell (i := 5) (v := .int .i64 y.n1) rfl
        have p6 := hB.cell (i := 6) (v := .int .i64 y.n2) rfl
        have p7 := hB.cell (i := 7) (v := .int .i64 y.n3) rfl
        have p8 := hB.cell (i := 8) (v := .slice y.kb y.kl y.kc) rfl
        have lq := hB.lt
        have la := Nat.lt_of_lt_of_le lbr e1.size
        have a0 := e1.cell c0
        have a1 := e1.cell c1
        have a2 := e1.cell c2
        have a3 := e1.cell c3
        have a4 := e1.cell c4
        have a5 := e1.cell c5
        have a6 := e1.cell c6
        have a7 := e1.cell c7
        have HE1 := hid e1
        clear c0 c1 c2 c3 c4 c5 c6 c7 lbr hB e1 hq
        refine wp_region_any_order (by kernel_rfl) (by kernel_rfl) (by kernel_rfl) ?_
        repeat (first
          | (refine AWq.val rfl rfl rfl rfl (fun K hK => ?_); go_big_quiet_op; refine hK _ ?_; clear hK K)
          | (refine AWq.skip rfl rfl rfl ?_; simp only [Act.put, List.setIfInBounds_toArray, List.set_cons_succ, List.set_cons_zero])
          | (refine AWq.call rfl Try.func72 (by kernel_rfl) (by kernel_rfl) rfl rfl rfl ?_; apply Exists.intro; refine And.intro (fun wc hc => ?_) ?_; (· (simp only [argsOf, anyAt, ↓reduceIte, Nat.reduceEqDiff, Array.getD_eq_getD_getElem?, List.getElem?_toArray, List.getElem?_cons_succ, List.getElem?_cons_zero, Option.getD_some]; with_reducible exact (HOne.out _))); simp only [Act.put, List.setIfInBounds_toArray, List.set_cons_succ, List.set_cons_zero])
          | (refine AWq.callQ (RowAt Cnt.cells 4 (gat ((cnts l r).take (k + 1)))) (RowAt.steady _ _ _) rfl Try.func49 (by kernel_rfl) (by kernel_rfl) rfl rfl rfl (fun wc hc => ?_) ?_; (· (simp only [argsOf, anyAt, ↓reduceIte, Nat.reduceEqDiff, Array.getD_eq_getD_getElem?, List.getElem?_toArray, List.getElem?_cons_succ, List.getElem?_cons_zero, Option.getD_some]; exact HPut.out _ (HE1.out.trans hc))))
          | (refine AWq.opQ (RowAt Cnt.cells 4 (gat ((cnts l r).take (k + 1)))) (RowAt.steady _ _ _) rfl (fun a wc hc hl' => ⟨rfl, ?_⟩) ?_; (· (have e := hl' 30 (of_decide_eq_true (by kernel_rfl)); exact ⟨e, Ext.refl _⟩))))
        refine AWq.done rfl rfl rfl (fun w2 x2 => ?_)
        simp only [closeAny, Act.put, List.setIfInBounds_toArray, List.set_cons_succ, List.set_cons_zero]
        intro u1 hu1 u2 hu2
        have HU := hid hu1
        have HU2 := hid hu2
        have HX := hid (HE.out.trans (HE1.out.trans x2))
        clear hu1 hu2 x2 p0 p1 p2 p3 p4 p5 p6 p7 p8 a0 a1 a2 a3 a4 a5 a6 a7
        go_wp2_with fail
        go_roundw
        case rel => exact ⟨k + 1, _, by omega, by go_num, rfl, HX.out, by first | exact HU.out | exact HU2.out⟩
        case measure => simp [intOf]; omega
    · obtain rfl : k = l.length := by omega
      rw [List.take_of_length_le (l := cnts l r) (by rw [cnts_len]; omega)] at hR
      have HR := hid hR
      clear hE h3 k3 hR
      go_wp2_with fail
      go_ret
      exact ⟨_, rfl, HR.out, HE.out⟩
end Go.Proofs.Ytefgjkaoidifbaa
