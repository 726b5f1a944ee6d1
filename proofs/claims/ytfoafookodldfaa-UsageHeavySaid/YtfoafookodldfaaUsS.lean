/-
  lighteragelaw43.UsageHeavy: its walk.
-/
import Derived.Test.YtfoafookodldfaaUsR
namespace Go.Proofs.Ytfoafookodldfaa
set_option linter.unusedSimpArgs false
set_option linter.unusedVariables false
open Go.RowKit

/-- among all, the longest prefixes under which there is much -/
def badK (A : List UseI) (most : Int) (u : UseI) (k : Nat) : Bool := (A.take k).any fun v => belowK u v && much most v
def wantK (A : List UseI) (most : Int) (u : UseI) : Bool := much most u && !badK A most u A.length
theorem heavyK_eq (A : List UseI) (most : Int) : heavyK A most = A.filter (wantK A most) := by
  unfold heavyK wantK badK
  rw [List.take_length, List.filter_filter]
  congr 1
  funext u
  rw [List.any_filter, Bool.and_comm]
  congr 2
  congr 1
  funext v
  exact Bool.and_comm _ _
theorem badK_succ (A : List UseI) (most : Int) (u : UseI) (k : Nat) (h : k < A.length) : badK A most u (k + 1) = (badK A most u k || (belowK u A[k] && much most A[k])) := by
  unfold badK
  rw [List.take_succ_eq_append_getElem h, List.any_append]; simp
theorem all_apart (l : List LeafI) (i k : Nat) (hi : i < (allK l (preK l)).length) (hk : k < (allK l (preK l)).length) (h : i ≠ k) : (allK l (preK l))[k].pre ≠ (allK l (preK l))[i].pre := by
  have e : ∀ j (hj : j < (allK l (preK l)).length), (allK l (preK l))[j].pre = ((preK l)[j]'(by rw [allK_length] at hj; exact hj)).name := fun j hj => by simp [allK, ofK]
  rw [e, e]
  rw [allK_length] at hi hk
  have hs := (pre_facts l).1
  rcases Nat.lt_or_gt_of_ne h with h | h
  · exact (ne_of_blt (srt_get hs h hk)).symm
  · exact ne_of_blt (srt_get hs h hi)
theorem belowK_self (u : UseI) : belowK u u = false := by simp [belowK]


set_option maxRecDepth 100000 in
set_option maxHeartbeats 4000000 in
theorem usageHeavy_walk (w : World) (v : Value) (l : List LeafI) (most : Int) (h : Sl w 5 v (Leaves l)) : Calls Try.prog 10 #[v, .int .i64 most] w (Ret (.bool true) w) := by
  obtain ⟨i0, hi0, hz0, hz1, hz2⟩ := info_parts use_info
  have HF := hid (few_c w v l h)
  have hf := few100_few l
  generalize fewK l = m at HF hf
  have HR : Hid (∀ W v, Sl W 5 v (Leaves m) → Calls Try.prog 33 #[v] W (RetQ (fun v' w' => Sl w' 3 v' (Uses (allK m (preK m)))) W)) := fun W v h => rall_c W v m h hf
  have HH : Hid (∀ W v, Sl W 5 v (Leaves m) → Calls Try.prog 36 #[v, .int .i64 most] W (RetQ (fun v' w' => Sl w' 3 v' (Uses (heavyK (allK m (preK m)) most))) W)) := fun W v h => uheavy_c W v m most h hf
  have hsh := all_short hf
  have hap0 := fun i k hi hk => all_apart m i k hi hk
  generalize allK m (preK m) = A at HR HH hsh hap0
  clear h hf
  go_enter Try.func10, Try.ntmps10
  go_wp2_with (first
    | (go_at_call 28; refine (HF.out).mono ?_; rintro e w1 ⟨v1, rfl, hv, hx⟩; have HV := hid hv; have HX := hid hx; clear hv hx)
    | (go_at_call 33; refine (HR.out _ _ HV.out).mono ?_; rintro e w2 ⟨v2, rfl, hv, hx⟩; obtain ⟨B, c, rfl, k1, k2, k3⟩ := sl_use hv; have HV := hid (HV.out.ext hx); have HX := hid (HX.out.trans hx); clear hv hx))
  unfold maxLen at k2
  clear HR HF
  go_loopw [6, 7] (fun v ii wr => ∃ i : Nat, i ≤ A.length ∧ ii = .int .i64 i ∧ Ext w2 wr ∧ ∃ out : List UseI, out.length ≤ i ∧ out = (A.take i).filter (wantK A most) ∧ wr.ownsRow w2.heap.size 55 3 v out.length (Uses out).flatten) (fun _ ii _ => A.length - (intOf ii).toNat)
  case atStart => exact ⟨0, by omega, rfl, Ext.refl _, [], Nat.le_refl _, rfl, ⟨rfl, .inl ⟨rfl, rfl⟩⟩⟩
  case round =>
    obtain ⟨i, hi, rfl, hE, out, hout, hrest, hown⟩ := hrel
    by_cases hlti : i < A.length
    · obtain ⟨b, o, rfl, lb, hcell⟩ := k3 (by omega)
      obtain ⟨c0, c1, c2⟩ := hcell i hlti
      have e0 := hE.cell c0
      have e1 := hE.cell c1
      have e2 := hE.cell c2
      have lb1 := Nat.lt_of_lt_of_le lb hE.size
      have HSo := hid (filter_succ (wantK A most) A i hlti)
      have hus := hsh.2 _ (List.getElem_mem hlti)
      have hap := fun k hk (h : k ≠ i) => hap0 i k hlti hk (Ne.symm h)
      have HE := hid hE
      have HOwn := hid hown
      have HRest := hid hrest
      clear hE hown hrest c0 c1 c2 hap0 k3
      generalize hue : A[i] = u at *
      obtain ⟨mu, hmu0⟩ : ∃ b, b = much most u := ⟨_, rfl⟩
      have d9 : decide (most < u.bytes) = mu := hmu0.symm
      have HMu := hid hmu0
      clear hmu0
      go_wp2_with fail
      go_loopw [8, 9] (fun f kk wr' => ∃ k : Nat, k ≤ A.length ∧ kk = .int .i64 k ∧ f = .bool (mu && !badK A most u k) ∧ Ext wr wr') (fun _ kk _ => A.length - (intOf kk).toNat)
      case atStart => exact ⟨0, by omega, rfl, by simp [badK], Ext.refl _⟩
      case round =>
        obtain ⟨k, hk, rfl, rfl, hE2⟩ := hrel
        by_cases hlt : k < A.length
        · obtain ⟨a0, a1, a2⟩ := hcell k hlt
          have b0 := hE2.cell (HE.out.cell a0)
          have b1 := hE2.cell (HE.out.cell a1)
          have b2 := hE2.cell (HE.out.cell a2)
          have f0 := hE2.cell e0
          have lb2 := Nat.lt_of_lt_of_le lb1 hE2.size
          have HS := hid (badK_succ A most u k hlt)
          have hvs := hsh.2 _ (List.getElem_mem hlt)
          have HAp : Hid (k ≠ i → A[k].pre ≠ u.pre) := fun h => hap k hlt h
          have HSelf : Hid (k = i → A[k] = u) := fun h => by subst h; exact hue
          have HE2 := hid hE2
          clear hE2 a0 a1 a2
          generalize A[k] = v at *
          have HCr : Hid (∀ W, Calls Try.prog 22 #[.string u.pre, .string v.pre] W (Ret (.bool (cov u.pre v.pre)) W)) := fun W => (rcovers_c u.pre v.pre W (by unfold maxLen; omega) (by unfold maxLen; omega)).mono fun _ _ ⟨h1, h2⟩ => ⟨h1, h2 ▸ Ext.refl _⟩
          generalize hbb : badK A most u k = bb at *
          clear hbb
          cases hf : (mu && !bb) with
          | false =>
            have HF : Hid (∀ x, (mu && !(bb || x)) = false) := fun x => by cases mu <;> cases bb <;> simp_all
            clear HAp HSelf HCr hf
            go_wp2_with fail
            refine wp_region_any_order (by kernel_rfl) (by kernel_rfl) (by kernel_rfl) ?_
            repeat (first
              | (refine AWq.val rfl rfl rfl rfl (fun K hK => ?_); go_big_quiet_op; refine hK _ ?_; clear hK K)
              | (refine AWq.skip rfl rfl rfl ?_; simp only [Act.put, List.setIfInBounds_toArray, List.set_cons_succ, List.set_cons_zero]))
            refine AWq.done rfl rfl rfl (fun w9 h9 => ?_)
            simp only [closeAny, Act.put, List.setIfInBounds_toArray, List.set_cons_succ, List.set_cons_zero]
            go_wp2_with fail
            go_roundw
            case rel => exact ⟨k + 1, by omega, by go_num, by rw [HS.out, HF.out], HE2.out.trans h9⟩
            case measure => simp [intOf]; omega
          | true =>
            have hmu : mu = true := by cases mu <;> simp_all
            have hbb : bb = false := by cases bb <;> simp_all
            subst hbb
            by_cases hki : k = i
            · have d0 : ((k : Int) != (i : Int)) = false := by simp [hki]
              have hvu := HSelf.out hki
              have HF : Hid (belowK u v = false) := by unfold Hid; rw [hvu]; exact belowK_self u
              clear HAp HSelf HCr hf hki hvu
              go_wp2_with fail
              refine wp_region_any_order (by kernel_rfl) (by kernel_rfl) (by kernel_rfl) ?_
              repeat (first
                | (refine AWq.val rfl rfl rfl rfl (fun K hK => ?_); go_big_quiet_op; refine hK _ ?_; clear hK K)
                | (refine AWq.skip rfl rfl rfl ?_; simp only [Act.put, List.setIfInBounds_toArray, List.set_cons_succ, List.set_cons_zero]))
              refine AWq.done rfl rfl rfl (fun w9 h9 => ?_)
              simp only [closeAny, Act.put, List.setIfInBounds_toArray, List.set_cons_succ, List.set_cons_zero]
              go_wp2_with fail
              go_roundw
              case rel => exact ⟨k + 1, by omega, by go_num, by rw [HS.out, HF.out, hmu]; rfl, HE2.out.trans h9⟩
              case measure => simp [intOf]; omega
            · have d0 : ((k : Int) != (i : Int)) = true := by simp; omega
              have hne := HAp.out hki
              have HB : Hid (belowK u v = cov u.pre v.pre) := by unfold Hid belowK; simp [hne]
              clear HAp HSelf hf hki hne
              by_cases hm : most < v.bytes
              · have d1 : decide (most < v.bytes) = true := decide_eq_true hm
                have HM : Hid (much most v = true) := d1
                clear hm
                generalize cov u.pre v.pre = c at *
                go_wp2_with fail
                refine wp_region_any_order (by kernel_rfl) (by kernel_rfl) (by kernel_rfl) ?_
                repeat (first
                  | (refine AWq.val rfl rfl rfl rfl (fun K hK => ?_); go_big_quiet_op; refine hK _ ?_; clear hK K)
                  | (refine AWq.skip rfl rfl rfl ?_; simp only [Act.put, List.setIfInBounds_toArray, List.set_cons_succ, List.set_cons_zero])
                  | (refine AWq.call rfl Try.func22 (by kernel_rfl) (by kernel_rfl) rfl rfl rfl ?_; apply Exists.intro; refine And.intro (fun wc hc => ?_) ?_; (· (simp only [argsOf, anyAt, ↓reduceIte, Nat.reduceEqDiff, Array.getD_eq_getD_getElem?, List.getElem?_toArray, List.getElem?_cons_succ, List.getElem?_cons_zero, Option.getD_some]; with_reducible exact HCr.out _)); simp only [Act.put, List.setIfInBounds_toArray, List.set_cons_succ, List.set_cons_zero]))
                refine AWq.done rfl rfl rfl (fun w9 h9 => ?_)
                simp only [closeAny, Act.put, List.setIfInBounds_toArray, List.set_cons_succ, List.set_cons_zero]
                go_wp2_with fail
                go_roundw
                case rel => exact ⟨k + 1, by omega, by go_num, by rw [HS.out, HB.out, HM.out, hmu]; simp, HE2.out.trans h9⟩
                case measure => simp [intOf]; omega
              · have d1 : decide (most < v.bytes) = false := decide_eq_false hm
                have HM : Hid (much most v = false) := d1
                clear hm
                go_wp2_with fail
                refine wp_region_any_order (by kernel_rfl) (by kernel_rfl) (by kernel_rfl) ?_
                repeat (first
                  | (refine AWq.val rfl rfl rfl rfl (fun K hK => ?_); go_big_quiet_op; refine hK _ ?_; clear hK K)
                  | (refine AWq.skip rfl rfl rfl ?_; simp only [Act.put, List.setIfInBounds_toArray, List.set_cons_succ, List.set_cons_zero]))
                refine AWq.done rfl rfl rfl (fun w9 h9 => ?_)
                simp only [closeAny, Act.put, List.setIfInBounds_toArray, List.set_cons_succ, List.set_cons_zero]
                go_wp2_with fail
                go_roundw
                case rel => exact ⟨k + 1, by omega, by go_num, by rw [HS.out, HM.out, hmu]; simp, HE2.out.trans h9⟩
                case measure => simp [intOf]; omega
        · obtain rfl : k = A.length := by omega
          have f0 := hE2.cell e0
          have f1 := hE2.cell e1
          have f2 := hE2.cell e2
          have lb2 := Nat.lt_of_lt_of_le lb1 hE2.size
          have hwk : (mu && !badK A most u A.length) = wantK A most u := by rw [HMu.out]; rfl
          have HE2 := hid (HE.out.trans hE2)
          have HOwn2 := hid (ownsRow_ext HOwn.out hE2)
          clear hE2
          rw [hwk]
          have hole := hsh.1
          clear hwk hsh hap hcell
          cases hw : wantK A most u with
          | true =>
            rw [hw, if_pos rfl] at HSo
            have HSo' : Hid ((A.take (i + 1)).filter (wantK A most) = out ++ [u]) := by unfold Hid; rw [HSo.out, ← HRest.out]
            have O4 := hid (ownsRow_ext HOwn2.out (Ext.alloc wr (.cells #[.string u.pre, .int .i64 u.files, .int .i64 u.bytes] 55)))
            have HE4 := hid (HE2.out.alloc' (.cells #[.string u.pre, .int .i64 u.files, .int .i64 u.bytes] 55))
            have hbs := HE4.out.size
            clear HSo hw
            go_wp2_with (at_builtin; refine wpList_append_lies _ rfl (.tmp 63) (.tmp 68) _ rfl w2.heap.size 55 i0 _ 3 32 Try.underlying58 hi0 hz0 hz1 hz2 rfl (by omega) u6 out.length (Uses out).flatten rfl O4.out ⟨wr.heap.size, 0, none⟩ 1 1 [.string u.pre, .int .i64 u.files, .int .i64 u.bytes] rfl rfl (World.news_of_block (cs := #[.string u.pre, .int .i64 u.files, .int .i64 u.bytes]) (t := 55) (fr := (0, 0)) (heap_alloc_new wr _)) (by simp [Value.oneCell']) (by omega) (by unfold maxLen; omega) (by omega) hbs _ rfl ?_; intro g2 cc2 w4 hown4 hgrow hat hlt4; have HB : Hid (Ext w2 w4) := HE4.out.grown hgrow hbs (fun q hq => (row_block O4.out q hq).1); have HO4 := hid hown4; clear hgrow hat hlt4 hown4 hbs)
            go_roundw
            case rel => exact ⟨i + 1, by omega, by go_num, HB.out, out ++ [u], by simp; omega, HSo'.out.symm, by rw [uses_append, List.length_append]; exact HO4.out⟩
            case measure => simp [intOf]; omega
          | false =>
            rw [hw, if_neg (by simp), List.append_nil, ← HRest.out] at HSo
            clear hw
            go_wp2_with fail
            go_roundw
            case rel => exact ⟨i + 1, by omega, by go_num, HE2.out, out, by omega, HSo.out.symm, HOwn2.out⟩
            case measure => simp [intOf]; omega
    · obtain rfl : i = A.length := by omega
      rw [List.take_length, ← heavyK_eq] at hrest
      have HS := hid (sl_of_row (uses_sz out) (by rw [show (Uses out).length = out.length by simp [Uses]]; exact hown))
      rw [hrest] at HS
      have HSame : Hid (∀ W u v, Sl W 3 u (Uses (heavyK A most)) → Sl W 3 v (Uses (heavyK A most)) → Calls Try.prog 31 #[u, v] W (Ret (.bool true) W)) := fun W u v h1 h2 => same_c W u v _ h1 h2
      have HV := hid (HV.out.ext hE)
      have HX := hid (HX.out.trans hE)
      clear hE hown hrest hap0 k3 hsh
      generalize heavyK A most = us at *
      go_wp2_with (first
        | (go_at_call 27; refine (awake43_c _).mono ?_; rintro e w5 ⟨rfl, hx⟩; have HV := hid (HV.out.ext hx); have HX := hid (HX.out.trans hx); have HS := hid (HS.out.ext hx); clear hx)
        | (go_at_call 36; refine (HH.out _ _ HV.out).mono ?_; rintro e w6 ⟨u1, rfl, hu1, hx⟩; have HX := hid (HX.out.trans hx); have HS := hid (HS.out.ext hx); have HU1 := hid hu1; clear hx hu1)
        | (go_at_call 31; refine (HSame.out _ _ _ HU1.out HS.out).mono ?_; rintro e w7 ⟨rfl, hx⟩; have HX := hid (HX.out.trans hx); clear hx))
      go_ret
      exact ⟨rfl, HX.out⟩
end Go.Proofs.Ytfoafookodldfaa
