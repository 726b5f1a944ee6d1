/-
  An item's place; is it a listing?: the document's and the package's.
-/
import Derived.Test.YtgkdiknmjgpgmaaDfC
import Derived.Test.YtgkdiknmjgpgmaaUpB
namespace Go.Proofs.Ytgkdiknmjgpgmaa
set_option linter.unusedSimpArgs false
set_option linter.unusedVariables false
open Go.RowKit Go.Sort

def itemZ (l : List LeafI) (it : Ver) : Int := if placeK it l < l.length then placeK it l else -1
theorem eq2_false {a b : Ver} (h : ¬ a = b) : eq2 a.by_ a.n b.by_ b.n = false := by
  cases e : eq2 a.by_ a.n b.by_ b.n with
  | false => rfl
  | true => exact absurd ((eq2_iff a b).1 e) h
theorem eq2_true {a b : Ver} (h : a = b) : eq2 a.by_ a.n b.by_ b.n = true := (eq2_iff a b).2 h

set_option maxRecDepth 100000 in
set_option maxHeartbeats 1000000 in
theorem item40_c (w : World) (v : Value) (l : List LeafI) (it : Ver) (h : Sl w 5 v (l.map LeafI.cells)) : Calls Try.prog 60 #[v, it.val] w (Ret (.int .i64 (itemZ l it)) w) := by
  obtain ⟨A, c, rfl, h1, h2, h3⟩ := sl_get h
  unfold maxLen at h2
  have hr := placeK_le it l
  have hlow := placeK_ne it l
  have hat := placeK_at it l
  have HZ : Hid (itemZ l it = if placeK it l < l.length then (placeK it l : Int) else -1) := rfl
  clear h
  generalize placeK it l = r at hr hlow hat HZ
  generalize itemZ l it = z at HZ ⊢
  unfold Ver.val
  go_enter Try.func60, Try.ntmps60
  go_wp2_with fail
  have hE0 := Ext.alloc w (.cells #[.int .i64 it.by_, .int .i64 it.n] 26)
  have hB0 := Blk.new w 26 #[.int .i64 it.by_, .int .i64 it.n]
  generalize w.alloc (.cells #[.int .i64 it.by_, .int .i64 it.n] 26) = w0 at hE0 hB0 ⊢
  generalize w.heap.size = g0 at hB0 ⊢
  have x0 := hB0.cell (i := 0) (v := .int .i64 it.by_) rfl
  have x1 := hB0.cell (i := 1) (v := .int .i64 it.n) rfl
  have lg0 := hB0.lt
  clear hB0
  go_loopw [5] (fun i wr => ∃ k : Nat, k ≤ r ∧ i = .int .i64 k ∧ Ext w0 wr) (fun i _ => r - (intOf i).toNat)
  case atStart => exact ⟨0, by omega, rfl, Ext.refl _⟩
  case round =>
    obtain ⟨k, hk, rfl, hE⟩ := hrel
    have y0 := hE.cell x0
    have y1 := hE.cell x1
    have lg := Nat.lt_of_lt_of_le lg0 hE.size
    have HE := hid (hE0.trans hE)
    clear x0 x1 lg0
    by_cases hkl : k < l.length
    · obtain ⟨b, o, rfl, lb, hcell⟩ := h3 (by omega)
      have c2 := (hE0.trans hE).cell (hcell k hkl 2 _ rfl)
      have c3 := (hE0.trans hE).cell (hcell k hkl 3 _ rfl)
      have lbw := Nat.lt_of_lt_of_le lb (hE0.trans hE).size
      by_cases hlt : k < r
      · have hs := eq2_false (hlow k hkl hlt)
        have HE2 := hid hE
        clear hcell h3 hE hE0 hlow hat HZ HE
        generalize l[k] = x at c2 c3 hs
        go_wp2_with fail
        go_quiet (fail)
        go_wp2_with fail
        exact ⟨⟨k + 1, by omega, by go_num, HE2.out.drewN' _⟩, by simp [intOf]; omega⟩
      · obtain rfl : k = r := by omega
        have hs := eq2_true (hat hkl)
        rw [if_pos hkl] at HZ
        clear hcell h3 hE hE0 hlow hat
        generalize l[k] = x at c2 c3 hs
        go_wp2_with fail
        go_quiet (fail)
        go_wp2_with fail
        go_ret
        exact ⟨by rw [HZ.out]; rfl, HE.out.drewN' _⟩
    · obtain rfl : k = r := by omega
      rw [if_neg hkl] at HZ
      clear h3 hE hE0 hlow hat
      go_wp2_with fail
      go_ret
      exact ⟨by rw [HZ.out]; rfl, HE.out⟩

open Classical in
noncomputable def rightB (l : List LeafI) : Bool := decide (Rising l ∧ Once l)
theorem rightB_true {l : List LeafI} (h : Rising l ∧ Once l) : rightB l = true := by unfold rightB; simp [h]
theorem rightB_false {l : List LeafI} (h : ¬ (Rising l ∧ Once l)) : rightB l = false := by unfold rightB; simp [h]
theorem rightB_iff {l : List LeafI} : rightB l = true ↔ Rising l ∧ Once l := by unfold rightB; simp
/-- All that lies ahead of k is in order. -/
def RiseTo (l : List LeafI) (k : Nat) : Prop := ∀ j (h : j + 1 < l.length), j + 1 < k → blt l[j].name l[j + 1].name = true
def OnceTo (l : List LeafI) (k : Nat) : Prop := ∀ j (h : j < l.length), j < k → placeK l[j].item l = j
theorem riseTo_succ {l : List LeafI} {k : Nat} (h : RiseTo l k) (hs : ∀ j (h : j + 1 < l.length), j + 1 = k → blt l[j].name l[j + 1].name = true) : RiseTo l (k + 1) := fun j hj hlt => by
  by_cases e : j + 1 = k
  · exact hs j hj e
  · exact h j hj (by omega)
theorem onceTo_succ {l : List LeafI} {k : Nat} (h : OnceTo l k) (hk : k < l.length) (hs : placeK l[k].item l = k) : OnceTo l (k + 1) := fun j hj hlt => by
  by_cases e : j = k
  · subst e; exact hs
  · exact h j hj (by omega)
set_option maxRecDepth 100000 in
set_option maxHeartbeats 2000000 in
theorem right40_c (w : World) (v : Value) (l : List LeafI) (h : Sl w 5 v (l.map LeafI.cells)) : Calls Try.prog 30 #[v] w (Ret (.bool (rightB l)) w) := by
  have HS := hid h
  obtain ⟨A, c, rfl, h1, h2, h3⟩ := sl_get h
  unfold maxLen at h2
  clear h
  go_enter Try.func30, Try.ntmps30
  go_wp2_with fail
  go_loopw [3] (fun i wr => ∃ k : Nat, k ≤ l.length ∧ i = .int .i64 k ∧ RiseTo l k ∧ OnceTo l k ∧ Ext w wr) (fun i _ => l.length - (intOf i).toNat)
  case atStart => exact ⟨0, by omega, rfl, (fun j _ h => by omega), (fun j _ h => by omega), Ext.refl _⟩
  case round =>
    obtain ⟨k, hk, rfl, hR, hO, hE⟩ := hrel
    have HE := hid hE
    by_cases hlt : k < l.length
    · obtain ⟨b, o, rfl, lb, hcell⟩ := h3 (by omega)
      have c0 := hE.cell (hcell k hlt 0 _ rfl)
      have c2 := hE.cell (hcell k hlt 2 _ rfl)
      have c3 := hE.cell (hcell k hlt 3 _ rfl)
      rw [Nat.add_zero] at c0
      have lbr := Nat.lt_of_lt_of_le lb hE.size
      have HI : Hid (∀ W, Ext wr W → Calls Try.prog 60 #[.slice (some ⟨b, o, none⟩) l.length c, .agg #[.int .i64 l[k].item.by_, .int .i64 l[k].item.n]] W (Ret (.int .i64 (itemZ l l[k].item)) W)) := fun W hW => item40_c W _ l l[k].item (HS.out.ext (hE.trans hW))
      have hz : itemZ l l[k].item = placeK l[k].item l := by
        unfold itemZ
        rw [if_pos (placeK_lt.2 ⟨_, List.getElem_mem hlt, rfl⟩)]
      rw [hz] at HI
      have hpk : placeK l[k].item l = k → ((placeK l[k].item l : Int) != (k : Int)) = false := fun e => by simp [e]
      have hpn : ¬ placeK l[k].item l = k → ((placeK l[k].item l : Int) != (k : Int)) = true := fun e => by simp; omega
      have HBad : Hid (¬ placeK l[k].item l = k → rightB l = false) := fun e => rightB_false fun hh => e (hh.2 k hlt)
      by_cases h0 : k = 0
      · have d0 : decide (0 < k) = false := by simp [h0]
        by_cases hp : placeK l[k].item l = k
        · have d3 := hpk hp
          have HR : Hid (RiseTo l (k + 1) ∧ OnceTo l (k + 1)) := ⟨riseTo_succ hR (fun j _ e => by omega), onceTo_succ hO hlt hp⟩
          clear hcell h3 hE hR hO hz hp h0 hpk hpn HBad
          generalize placeK l[k].item l = p at HI d3
          generalize l[k] = x at c0 c2 c3 HI
          go_wp2_with fail
          refine wp_region_any_order (by kernel_rfl) (by kernel_rfl) (by kernel_rfl) ?_
          repeat (first
            | (refine AWq.val rfl rfl rfl rfl (fun K hK => ?_); go_big_quiet_op; refine hK _ ?_; clear hK K)
            | (refine AWq.skip rfl rfl rfl ?_; simp only [Act.put, List.setIfInBounds_toArray, List.set_cons_succ, List.set_cons_zero])
            | (refine AWq.call rfl Try.func60 (by kernel_rfl) (by kernel_rfl) rfl rfl rfl ?_; apply Exists.intro; refine And.intro (fun wc hc => ?_) ?_; (· (simp only [argsOf, anyAt, ↓reduceIte, Nat.reduceEqDiff, Array.getD_eq_getD_getElem?, List.getElem?_toArray, List.getElem?_cons_succ, List.getElem?_cons_zero, Option.getD_some]; with_reducible exact HI.out _ hc)); simp only [Act.put, List.setIfInBounds_toArray, List.set_cons_succ, List.set_cons_zero]))
          refine AWq.done rfl rfl rfl (fun w2 x2 => ?_)
          simp only [closeAny, Act.put, List.setIfInBounds_toArray, List.set_cons_succ, List.set_cons_zero]
          go_wp2_with fail
          go_roundw
          case rel => exact ⟨k + 1, by omega, by go_num, HR.out.1, HR.out.2, HE.out.trans x2⟩
          case measure => simp [intOf]; omega
        · have d3 := hpn hp
          have HR := hid (HBad.out hp)
          clear hcell h3 hE hR hO hz hp h0 hpk hpn HBad
          generalize placeK l[k].item l = p at HI d3
          generalize l[k] = x at c0 c2 c3 HI
          go_wp2_with fail
          refine wp_region_any_order (by kernel_rfl) (by kernel_rfl) (by kernel_rfl) ?_
          repeat (first
            | (refine AWq.val rfl rfl rfl rfl (fun K hK => ?_); go_big_quiet_op; refine hK _ ?_; clear hK K)
            | (refine AWq.skip rfl rfl rfl ?_; simp only [Act.put, List.setIfInBounds_toArray, List.set_cons_succ, List.set_cons_zero])
            | (refine AWq.call rfl Try.func60 (by kernel_rfl) (by kernel_rfl) rfl rfl rfl ?_; apply Exists.intro; refine And.intro (fun wc hc => ?_) ?_; (· (simp only [argsOf, anyAt, ↓reduceIte, Nat.reduceEqDiff, Array.getD_eq_getD_getElem?, List.getElem?_toArray, List.getElem?_cons_succ, List.getElem?_cons_zero, Option.getD_some]; with_reducible exact HI.out _ hc)); simp only [Act.put, List.setIfInBounds_toArray, List.set_cons_succ, List.set_cons_zero]))
          refine AWq.done rfl rfl rfl (fun w2 x2 => ?_)
          simp only [closeAny, Act.put, List.setIfInBounds_toArray, List.set_cons_succ, List.set_cons_zero]
          go_wp2_with fail
          go_ret
          exact ⟨by rw [HR.out]; rfl, HE.out.trans x2⟩
      · have d0 : decide (0 < k) = true := by simp; omega
        obtain ⟨j, rfl⟩ : ∃ j, k = j + 1 := ⟨k - 1, by omega⟩
        have hj : j < l.length := Nat.lt_of_succ_lt hlt
        have e0 := hE.cell (hcell j hj 0 _ rfl)
        rw [Nat.add_zero] at e0
        by_cases hb : blt l[j].name l[j + 1].name = true
        · have d1 : Op.bytesLess l[j].name.toList l[j + 1].name.toList = true := hb
          by_cases hp : placeK l[j + 1].item l = j + 1
          · have d3 := hpk hp
            have HR : Hid (RiseTo l (j + 1 + 1) ∧ OnceTo l (j + 1 + 1)) := ⟨riseTo_succ hR (fun i hi e => by obtain rfl : i = j := Nat.succ.inj e; exact hb), onceTo_succ hO hlt hp⟩
            clear hcell h3 hE hR hO hz hp h0 hb hpk hpn HBad
            generalize placeK l[j + 1].item l = p at HI d3
            generalize l[j + 1] = x at c0 c2 c3 HI d1
            generalize l[j] = y at e0 d1
            go_wp2_with fail
            refine wp_region_any_order (by kernel_rfl) (by kernel_rfl) (by kernel_rfl) ?_
            repeat (first
              | (refine AWq.val rfl rfl rfl rfl (fun K hK => ?_); go_big_quiet_op; refine hK _ ?_; clear hK K)
              | (refine AWq.skip rfl rfl rfl ?_; simp only [Act.put, List.setIfInBounds_toArray, List.set_cons_succ, List.set_cons_zero])
              | (refine AWq.call rfl Try.func60 (by kernel_rfl) (by kernel_rfl) rfl rfl rfl ?_; apply Exists.intro; refine And.intro (fun wc hc => ?_) ?_; (· (simp only [argsOf, anyAt, ↓reduceIte, Nat.reduceEqDiff, Array.getD_eq_getD_getElem?, List.getElem?_toArray, List.getElem?_cons_succ, List.getElem?_cons_zero, Option.getD_some]; with_reducible exact HI.out _ hc)); simp only [Act.put, List.setIfInBounds_toArray, List.set_cons_succ, List.set_cons_zero]))
            refine AWq.done rfl rfl rfl (fun w2 x2 => ?_)
            simp only [closeAny, Act.put, List.setIfInBounds_toArray, List.set_cons_succ, List.set_cons_zero]
            go_wp2_with fail
            go_roundw
            case rel => exact ⟨j + 1 + 1, by omega, by go_num, HR.out.1, HR.out.2, HE.out.trans x2⟩
            case measure => simp [intOf]; omega
          · have d3 := hpn hp
            have HR := hid (HBad.out hp)
            clear hcell h3 hE hR hO hz hp h0 hb hpk hpn HBad
            generalize placeK l[j + 1].item l = p at HI d3
            generalize l[j + 1] = x at c0 c2 c3 HI d1
            generalize l[j] = y at e0 d1
            go_wp2_with fail
            refine wp_region_any_order (by kernel_rfl) (by kernel_rfl) (by kernel_rfl) ?_
            repeat (first
              | (refine AWq.val rfl rfl rfl rfl (fun K hK => ?_); go_big_quiet_op; refine hK _ ?_; clear hK K)
              | (refine AWq.skip rfl rfl rfl ?_; simp only [Act.put, List.setIfInBounds_toArray, List.set_cons_succ, List.set_cons_zero])
              | (refine AWq.call rfl Try.func60 (by kernel_rfl) (by kernel_rfl) rfl rfl rfl ?_; apply Exists.intro; refine And.intro (fun wc hc => ?_) ?_; (· (simp only [argsOf, anyAt, ↓reduceIte, Nat.reduceEqDiff, Array.getD_eq_getD_getElem?, List.getElem?_toArray, List.getElem?_cons_succ, List.getElem?_cons_zero, Option.getD_some]; with_reducible exact HI.out _ hc)); simp only [Act.put, List.setIfInBounds_toArray, List.set_cons_succ, List.set_cons_zero]))
            refine AWq.done rfl rfl rfl (fun w2 x2 => ?_)
            simp only [closeAny, Act.put, List.setIfInBounds_toArray, List.set_cons_succ, List.set_cons_zero]
            go_wp2_with fail
            go_ret
            exact ⟨by rw [HR.out]; rfl, HE.out.trans x2⟩
        · have d1 : Op.bytesLess l[j].name.toList l[j + 1].name.toList = false := by
            have : blt l[j].name l[j + 1].name = false := by simpa using hb
            exact this
          have HR : Hid (rightB l = false) := rightB_false fun hh => hb (hh.1 j hlt)
          clear hcell h3 hE hR hO hz h0 hb hpk hpn HBad
          generalize placeK l[j + 1].item l = p at HI
          generalize l[j + 1] = x at c0 c2 c3 HI d1
          generalize l[j] = y at e0 d1
          by_cases hp : p = j + 1
          · have d3 : ((p : Int) != (j + 1 : Nat)) = false := by simp [hp]
            clear hp
            go_wp2_with fail
            refine wp_region_any_order (by kernel_rfl) (by kernel_rfl) (by kernel_rfl) ?_
            repeat (first
              | (refine AWq.val rfl rfl rfl rfl (fun K hK => ?_); go_big_quiet_op; refine hK _ ?_; clear hK K)
              | (refine AWq.skip rfl rfl rfl ?_; simp only [Act.put, List.setIfInBounds_toArray, List.set_cons_succ, List.set_cons_zero])
              | (refine AWq.call rfl Try.func60 (by kernel_rfl) (by kernel_rfl) rfl rfl rfl ?_; apply Exists.intro; refine And.intro (fun wc hc => ?_) ?_; (· (simp only [argsOf, anyAt, ↓reduceIte, Nat.reduceEqDiff, Array.getD_eq_getD_getElem?, List.getElem?_toArray, List.getElem?_cons_succ, List.getElem?_cons_zero, Option.getD_some]; with_reducible exact HI.out _ hc)); simp only [Act.put, List.setIfInBounds_toArray, List.set_cons_succ, List.set_cons_zero]))
            refine AWq.done rfl rfl rfl (fun w2 x2 => ?_)
            simp only [closeAny, Act.put, List.setIfInBounds_toArray, List.set_cons_succ, List.set_cons_zero]
            go_wp2_with fail
            go_ret
            exact ⟨by rw [HR.out]; rfl, HE.out.trans x2⟩
          · have d3 : ((p : Int) != (j + 1 : Nat)) = true := by simp; omega
            clear hp
            go_wp2_with fail
            refine wp_region_any_order (by kernel_rfl) (by kernel_rfl) (by kernel_rfl) ?_
            repeat (first
              | (refine AWq.val rfl rfl rfl rfl (fun K hK => ?_); go_big_quiet_op; refine hK _ ?_; clear hK K)
              | (refine AWq.skip rfl rfl rfl ?_; simp only [Act.put, List.setIfInBounds_toArray, List.set_cons_succ, List.set_cons_zero])
              | (refine AWq.call rfl Try.func60 (by kernel_rfl) (by kernel_rfl) rfl rfl rfl ?_; apply Exists.intro; refine And.intro (fun wc hc => ?_) ?_; (· (simp only [argsOf, anyAt, ↓reduceIte, Nat.reduceEqDiff, Array.getD_eq_getD_getElem?, List.getElem?_toArray, List.getElem?_cons_succ, List.getElem?_cons_zero, Option.getD_some]; with_reducible exact HI.out _ hc)); simp only [Act.put, List.setIfInBounds_toArray, List.set_cons_succ, List.set_cons_zero]))
            refine AWq.done rfl rfl rfl (fun w2 x2 => ?_)
            simp only [closeAny, Act.put, List.setIfInBounds_toArray, List.set_cons_succ, List.set_cons_zero]
            go_wp2_with fail
            go_ret
            exact ⟨by rw [HR.out]; rfl, HE.out.trans x2⟩
    · obtain rfl : k = l.length := by omega
      have HR : Hid (rightB l = true) := rightB_true ⟨fun j hj => hR j hj (by omega), fun j hj => hO j hj hj⟩
      clear hE h3 hR hO
      go_wp2_with fail
      go_ret
      exact ⟨by rw [HR.out]; rfl, HE.out⟩
end Go.Proofs.Ytgkdiknmjgpgmaa
