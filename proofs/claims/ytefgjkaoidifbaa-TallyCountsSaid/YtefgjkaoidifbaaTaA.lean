/-
  tally.gather: its closures.
-/
import Derived.Test.YtefgjkaoidifbaaVersG0
import Derived.Test.YtefgjkaoidifbaaTaM
import Derived.Test.YtefgjkaoidifbaaSoG
import Derived.Test.YtefgjkaoidifbaaSoL
namespace Go.Proofs.Ytefgjkaoidifbaa.D
open Go.RowKit
def cmpC (a b : Cnt) : Int := cmpI a.kind b.kind
set_option maxRecDepth 100000 in
set_option maxHeartbeats 400000 in
theorem kind_c (a b : Cnt) (w : World) : Calls Try.prog 85 #[a.val, b.val] w (Ret (.int .i64 (cmpC a b)) w) := by
  have H := fun W => hid (compare_c a.kind b.kind W)
  unfold cmpC Cnt.val
  generalize cmpI a.kind b.kind = z at H ⊢
  go_enter Try.func85, Try.ntmps85
  go_wp2_with (go_at_call 60; refine (H _).out.mono ?_; rintro e w' ⟨rfl, hx⟩)
  go_ret
  exact ⟨rfl, (((Ext.refl _).alloc' _).alloc' _).trans hx⟩
theorem kind_g (a b : Cnt) (W : World) : Calls Try.prog 85 #[a.val, b.val] W fun e w' => e = .returned (.int .i64 (cmpC a b)) ∧ ∃ q os', w' = Go.Sort.grow (W.drewN q) os' :=
  (kind_c a b W).mono fun e w' ⟨he, hx⟩ => by
    obtain ⟨E, hE⟩ := hx.wext
    exact ⟨he, E.drawn, E.objs, hE⟩
end Go.Proofs.Ytefgjkaoidifbaa.D
namespace Go.Proofs.Ytefgjkaoidifbaa
set_option linter.unusedSimpArgs false
set_option linter.unusedVariables false
open Go.RowKit Go.Sort Go.Maps

theorem cmpC_lt (a b : Cnt) : ltOf D.cmpC a b = decide (a.kind < b.kind) := by
  unfold ltOf D.cmpC cmpI
  by_cases h1 : a.kind < b.kind <;> by_cases h2 : b.kind < a.kind <;> simp [h1, h2]
theorem swo_cnt : SWO (ltOf D.cmpC) := by
  refine ⟨fun a => by rw [cmpC_lt]; simp, fun a b c h1 h2 => ?_, fun a b c h1 h2 => ?_⟩
  · rw [cmpC_lt] at *; simp only [decide_eq_true_eq] at *; omega
  · rw [cmpC_lt] at *; simp only [decide_eq_false_iff_not] at *; omega
theorem sortCnt_c {w : World} {B : Nat} {v : Value} {l : List Cnt} (h : w.ownsRow B 58 4 v l.length (l.map Cnt.cells).flatten) (hl : l.length ≤ 1000000) :
    Calls Try.prog 84 #[v, .func (.func 85) #[] #[]] w fun en w' => en = .returned (.tuple #[]) ∧ Keep (fun q => v.ownBlock = some q) w w' ∧ ∃ l' : List Cnt, l'.Perm l ∧ l'.Pairwise (fun x y => ltOf D.cmpC y x = false) ∧ w'.ownsRow B 58 4 v l'.length (l'.map Cnt.cells).flatten :=
  sort_c (P := Try.prog) Try.sortCount Try.isAgg58 Try.sizeOf58 cnt_coded.len cnt_coded.one D.cmpC swo_cnt 85 (fun _ _ => run_callFunc Try.func85 (by kernel_rfl) (by kernel_rfl)) (fun W x y => D.kind_g x y W) h hl

def Added (w : World) (b n : Nat) (l : List Cnt) (e : Ending) (w' : World) : Prop :=
  e = .returned (.tuple #[]) ∧ Keep (fun q => q = b) w w' ∧ ∃ D : DataW Value, w'.ownsMap Try.prog 3 RC b n D ∧ MapIs D l
set_option maxRecDepth 100000 in
set_option maxHeartbeats 2000000 in
theorem add_c (w : World) (q b n : Nat) (D : DataW Value) (l : List Cnt) (x : Cnt) (hq : Blk w q 92 #[.map (some b)]) (hown : w.ownsMap Try.prog 3 RC b n D) (hD : MapIs D l) (hn : n ≤ 1000000) (hk : okK x.kind) (hx : Bd 1000000000000000 x) (ht : Bd 1000000000000000 (tot l x.kind)) :
    Calls Try.prog 83 #[x.val, .pointer (some ⟨q, 0, none⟩)] w (Added w b (n + 1) (l ++ [x])) := by
  have e1 := Ext.alloc w (.cells #[.int .i64 x.kind, .int .i64 x.acts, .int .i64 x.errs, .int .i64 x.made] 58)
  obtain ⟨v, ps, hrun, hv⟩ := (ownsMap_ext hown e1).lookup kLaw Try.underlying92 (zeroCnt _) (RC_val ⟨0, 0, 0, 0⟩) (okK_mk hk)
  obtain ⟨c, rfl, ca, ce, cm⟩ := hD.got x.kind ⟨ps, hv⟩
  have hadd : addC ⟨x.kind, c.acts, c.errs, c.made⟩ x = addC (tot l x.kind) x := by unfold addC; rw [ca, ce, cm, tot_kind]
  have HP := fun W => hid (plus_c ⟨x.kind, c.acts, c.errs, c.made⟩ x W (by unfold Bd at *; simp only; omega) (by unfold Bd at *; omega))
  rw [hadd] at HP
  have HM := hid (hD.put x hk)
  generalize addC (tot l x.kind) x = y at HP HM
  have hqc := fun W (hW : Ext w W) => hid (⟨(hq.ext hW).cell (i := 0) (v := .map (some b)) rfl, (hq.ext hW).lt⟩ : W.cell? ⟨q, 0, none⟩ = some (.map (some b)) ∧ q < W.heap.size)
  have HOwn := hid hown
  have HK := hid hk
  have q0 := hq.cell (i := 0) (v := .map (some b)) rfl
  have lq := hq.lt
  clear hown hD hv ca ce cm hadd ht hx hq hk e1
  unfold Cnt.val at *
  go_enter Try.func83, Try.ntmps83
  go_wp2_with fail
  have hEw := (Ext.alloc w (.cells #[.int .i64 x.kind, .int .i64 x.acts, .int .i64 x.errs, .int .i64 x.made] 58)).alloc' (.cells #[.int .i64 x.kind, .int .i64 c.acts, .int .i64 c.errs, .int .i64 c.made] 58)
  have hx1 := (Blk.new w 58 #[.int .i64 x.kind, .int .i64 x.acts, .int .i64 x.errs, .int .i64 x.made]).alloc (.cells #[.int .i64 x.kind, .int .i64 c.acts, .int .i64 c.errs, .int .i64 c.made] 58)
  have hc1 := Blk.new (w.alloc (.cells #[.int .i64 x.kind, .int .i64 x.acts, .int .i64 x.errs, .int .i64 x.made] 58)) 58 #[.int .i64 x.kind, .int .i64 c.acts, .int .i64 c.errs, .int .i64 c.made]
  rw [show (w.alloc (.cells #[.int .i64 x.kind, .int .i64 x.acts, .int .i64 x.errs, .int .i64 x.made] 58)).heap.size = w.heap.size + 1 by simp] at hc1
  clear hrun
  generalize (w.alloc (.cells #[.int .i64 x.kind, .int .i64 x.acts, .int .i64 x.errs, .int .i64 x.made] 58)).alloc (.cells #[.int .i64 x.kind, .int .i64 c.acts, .int .i64 c.errs, .int .i64 c.made] 58) = w1 at hEw hx1 hc1 ⊢
  have a0 := hx1.cell (i := 0) (v := .int .i64 x.kind) rfl
  have a1 := hx1.cell (i := 1) (v := .int .i64 x.acts) rfl
  have a2 := hx1.cell (i := 2) (v := .int .i64 x.errs) rfl
  have a3 := hx1.cell (i := 3) (v := .int .i64 x.made) rfl
  have d0 := hc1.cell (i := 0) (v := .int .i64 x.kind) rfl
  have d1 := hc1.cell (i := 1) (v := .int .i64 c.acts) rfl
  have d2 := hc1.cell (i := 2) (v := .int .i64 c.errs) rfl
  have d3 := hc1.cell (i := 3) (v := .int .i64 c.made) rfl
  have la := hx1.lt
  have lc := hc1.lt
  obtain ⟨q1, ql1⟩ := (hqc _ hEw).out
  clear hx1 hc1 q0 hqc
  refine wp_region_last (Rel.ext) (pre := ?pre) (z := ?z) ?hpre ?hz (Ext.steady _) (by kernel_rfl) (by kernel_rfl) (by kernel_rfl) (by kernel_rfl) ?_
  case hpre => (simp only [List.dropLast_cons_cons, List.dropLast_singleton]; first | done | exact rfl)
  case hz => (simp only [List.getLast?_cons_cons, List.getLast?_singleton]; first | done | exact rfl)
  repeat (first
    | (refine AWq.val rfl rfl rfl rfl (fun K hK => ?_); go_big_quiet_op; refine hK _ ?_; clear hK K)
    | (refine AWq.skip rfl rfl rfl ?_; simp only [Act.put, List.setIfInBounds_toArray, List.set_cons_succ, List.set_cons_zero])
    | (refine AWq.call rfl Try.func73 (by kernel_rfl) (by kernel_rfl) rfl rfl rfl ?_; apply Exists.intro; refine And.intro (fun wc hc => ?_) ?_; (· (simp only [argsOf, anyAt, ↓reduceIte, Nat.reduceEqDiff, Array.getD_eq_getD_getElem?, List.getElem?_toArray, List.getElem?_cons_succ, List.getElem?_cons_zero, Option.getD_some]; with_reducible exact (HP _).out)); simp only [Act.put, List.setIfInBounds_toArray, List.set_cons_succ, List.set_cons_zero]))
  refine AWq.last rfl rfl rfl (fun w2 x2 => ?_)
  simp only [closeAny, Act.put, List.setIfInBounds_toArray, List.set_cons_succ, List.set_cons_zero]
  have HE2 := hid (hEw.trans x2)
  have hown2 := ownsMap_ext HOwn.out HE2.out
  have hval : RC (.agg #[.int .i64 y.kind, .int .i64 y.acts, .int .i64 y.errs, .int .i64 y.made]) = some (.held (.agg #[.int .i64 y.kind, .int .i64 y.acts, .int .i64 y.errs, .int .i64 y.made]), []) := RC_val y
  clear hEw x2
  go_wp2_with (at_mapUpdate; refine wpList_mapUpdate_own _ rfl _ _ _ 92 rfl 3 58 kLaw Try.underlying92 RC b n D rfl hown2 (by unfold maxLen; omega) _ _ _ rfl rfl (okK_mk HK.out) _ [] hval ?_; intro w3 hown3 hgrow3; have HO3 := hid hown3; have HG3 := hid (Keep.of_grown hgrow3); clear hown3 hgrow3)
  refine bodyPost_end (results_none rfl _ _ _) rfl ?_
  exact ⟨rfl, (Keep.of_ext HE2.out).trans HG3.out, _, HO3.out, HM.out⟩
end Go.Proofs.Ytefgjkaoidifbaa
