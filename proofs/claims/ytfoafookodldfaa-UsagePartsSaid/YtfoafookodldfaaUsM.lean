/-
  lighteragelaw43.UsageParts: plain facts, and its walk.
-/
import Derived.Test.YtfoafookodldfaaUsL
namespace Go.Proofs.Ytfoafookodldfaa
set_option linter.unusedSimpArgs false
set_option linter.unusedVariables false
open Go.RowKit

theorem cov_iff (p s : ByteArray) : cov p s = true ↔ p.toList = [] ∨ s.toList = p.toList ∨ (p.toList ++ [47]) <+: s.toList := by
  have e : (p ++ ⟨#[47]⟩ : ByteArray).toList = p.toList ++ [47] := by
    rw [Lib.toList_data, Lib.toList_data, ByteArray.data_append, Array.toList_append]
  unfold cov
  rw [Bool.or_eq_true, Bool.or_eq_true, hpre_iff, e, List.isEmpty_iff, beq_iff_eq]
  constructor
  · rintro ((h | h) | h)
    · exact .inl h
    · exact .inr (.inl h)
    · exact .inr (.inr h)
  · rintro (h | h | h)
    · exact .inl (.inl h)
    · exact .inl (.inr h)
    · exact .inr h
theorem cov_trans {p q t : ByteArray} (h1 : cov p q = true) (h2 : cov q t = true) : cov p t = true := by
  rw [cov_iff] at *
  rcases h1 with h1 | h1 | h1
  · exact .inl h1
  · rw [h1] at h2; exact h2
  · rcases h2 with h2 | h2 | h2
    · rw [h2] at h1
      have := h1.length_le
      simp at this
    · rw [h2]; exact .inr (.inr h1)
    · exact .inr (.inr (h1.trans ((List.prefix_append _ _).trans h2)))
theorem files_mono {p q : ByteArray} (h : cov p q = true) : ∀ l : List LeafI, filesK l q ≤ filesK l p ∧ bytesK l q ≤ bytesK l p
  | [] => ⟨Nat.le_refl _, Nat.le_refl _⟩
  | x :: l => by
    obtain ⟨h1, h2⟩ := files_mono h l
    unfold filesK bytesK at *
    rw [List.filter_cons, List.filter_cons]
    cases hq : cov q x.path with
    | true =>
      have hp := cov_trans h hq
      rw [hp, if_pos rfl, if_pos rfl]
      simp only [List.length_cons, List.map_cons, List.sum_cons]
      constructor <;> omega
    | false =>
      rw [if_neg (by simp)]
      split
      · simp only [List.length_cons, List.map_cons, List.sum_cons]
        constructor <;> omega
      · exact ⟨h1, h2⟩
theorem files_whole (l : List LeafI) : filesK l ⟨#[]⟩ = l.length := by
  unfold filesK
  rw [List.filter_eq_self.2 fun x _ => (cov_iff _ _).2 (.inl nil_toList)]
theorem files_split (l : List LeafI) (k : Nat) (p : ByteArray) : filesK (l.take k) p + filesK (l.drop k) p = filesK l p ∧ bytesK (l.take k) p + bytesK (l.drop k) p = bytesK l p := by
  unfold filesK bytesK
  have e : l.filter (fun x => cov p x.path) = (l.take k).filter (fun x => cov p x.path) ++ (l.drop k).filter (fun x => cov p x.path) := by rw [← List.filter_append, List.take_append_drop]
  constructor
  · rw [e, List.length_append]
  · rw [e, List.map_append, List.sum_append]

theorem sl_drop {w : World} {sz b o n c k : Nat} {xs : List (List Value)} (h : Sl w sz (.slice (some ⟨b, o, none⟩) n c) xs) (hk : k ≤ n) : Sl w sz (.slice (some ⟨b, o + k * sz, none⟩) (n - k) (c - k)) (xs.drop k) := by
  obtain ⟨A, c', h1, h2, h3, h4⟩ := h
  injection h1 with hA hn hc
  subst hA; subst hc
  refine ⟨_, c - k, by rw [List.length_drop, hn], by rw [List.length_drop]; omega, by omega, fun hp => ?_⟩
  rw [List.length_drop] at hp
  obtain ⟨b', o', h5, h6, h7⟩ := h4 (by omega)
  injection h5 with h5
  injection h5 with h5 h5'
  subst h5; subst h5'
  refine ⟨b, o + k * sz, rfl, h6, fun i x j u hi hj => ?_⟩
  rw [List.getElem?_drop] at hi
  have := h7 (k + i) x j u hi hj
  rw [Nat.add_mul, ← Nat.add_assoc] at this
  exact this


set_option maxRecDepth 100000 in
set_option maxHeartbeats 4000000 in
theorem usageParts_walk (w : World) (v : Value) (l : List LeafI) (p q : ByteArray) (h : Sl w 5 v (Leaves l)) (hp : p.size ≤ maxLen) (hq : q.size ≤ maxLen) : Calls Try.prog 8 #[v, .string p, .string q] w (Ret (.bool true) w) := by
  have HF := hid (few_c2 w v l h)
  have hf := few100_few l
  have hlen20 := few_length l
  generalize fewK l = m at HF hf hlen20
  unfold maxLen at hp hq
  clear h
  by_cases h200 : 100 < p.size ∨ 100 < q.size
  · by_cases hp1 : 100 < p.size
    · have h2 : decide ((100 : Int) < (p.size : Int)) = true := by simp; omega
      go_enter Try.func8, Try.ntmps8
      go_wp2_with (go_at_call 27; refine (awake43_c _).mono ?_; rintro e v2 ⟨rfl, z2⟩)
      go_ret
      exact ⟨rfl, z2⟩
    · have h2 : decide ((100 : Int) < (p.size : Int)) = false := by simp; omega
      have h3 : decide ((100 : Int) < (q.size : Int)) = true := by simp; omega
      go_enter Try.func8, Try.ntmps8
      go_wp2_with (go_at_call 27; refine (awake43_c _).mono ?_; rintro e v2 ⟨rfl, z2⟩)
      go_ret
      exact ⟨rfl, z2⟩
  · have h2 : decide ((100 : Int) < (p.size : Int)) = false := by simp; omega
    have h3 : decide ((100 : Int) < (q.size : Int)) = false := by simp; omega
    have HO : Hid (∀ W v t, Sl W 5 v (Leaves m) → t.size ≤ 1000 → Calls Try.prog 29 #[v, .string t] W (Ret (.agg #[.string t, .int .i64 (filesK m t), .int .i64 (bytesK m t)]) W)) := fun W v t h ht => uof_c W v m t h hf.slim ht
    go_enter Try.func8, Try.ntmps8
    go_wp2_with (first
      | (go_at_call 28; refine (HF.out).mono ?_; rintro e w1 ⟨v1, rfl, ⟨hv, hz⟩, hx⟩; have HZ := hid hz; clear hz; obtain ⟨A, c, rfl, k1, k2, k3⟩ := sl_leaf hv; have HV := hid hv; have HX := hid hx; clear hv hx)
      | (go_at_call 29; refine (HO.out _ _ _ ((HV3.out.ext (Ext.alloc _ _)).ext (Ext.alloc _ _)) ?_).mono ?_; (· simp [size_lit]); rintro e w4 ⟨rfl, hx⟩; have HC4 := hid hx; clear hx)
      | (go_at_call 29; refine (HO.out _ _ _ HV2.out ?_).mono ?_; (· omega); rintro e w3 ⟨rfl, hx⟩; have HV3 := hid (HV2.out.ext hx); have HX := hid (HX.out.trans hx); clear hx HV2)
      | (go_at_call 29; refine (HO.out _ _ _ HV.out ?_).mono ?_; (· omega); rintro e w2 ⟨rfl, hx⟩; have HV2 := hid (HV.out.ext hx); have HX := hid (HX.out.trans hx); clear hx HV))
    have hkk : ((m.length : Int) / 2) = ((m.length / 2 : Nat) : Int) := by omega
    rw [hkk]
    have hk2 : m.length / 2 ≤ m.length := by omega
    have hk3 : 0 < m.length → m.length / 2 < m.length := by omega
    clear hkk
    generalize m.length / 2 = k at hk2 hk3 ⊢
    have B7 : Blk (w4.alloc (.cells #[.string ⟨#[]⟩, .int .i64 (filesK m ⟨#[]⟩), .int .i64 (bytesK m ⟨#[]⟩)] 55)) w3.heap.size 55 #[.string p, .int .i64 (filesK m p), .int .i64 (bytesK m p)] := (((Blk.new w3 _ _).alloc _).ext HC4.out).alloc _
    have B8 : Blk (w4.alloc (.cells #[.string ⟨#[]⟩, .int .i64 (filesK m ⟨#[]⟩), .int .i64 (bytesK m ⟨#[]⟩)] 55)) (w3.heap.size + 1) 55 #[.string q, .int .i64 (filesK m q), .int .i64 (bytesK m q)] := by
      have := Blk.new (w3.alloc (.cells #[.string p, .int .i64 (filesK m p), .int .i64 (bytesK m p)] 55)) 55 #[.string q, .int .i64 (filesK m q), .int .i64 (bytesK m q)]
      simp only [World.size_alloc] at this
      exact (this.ext HC4.out).alloc _
    have B9 : Blk (w4.alloc (.cells #[.string ⟨#[]⟩, .int .i64 (filesK m ⟨#[]⟩), .int .i64 (bytesK m ⟨#[]⟩)] 55)) w4.heap.size 55 #[.string ⟨#[]⟩, .int .i64 (filesK m ⟨#[]⟩), .int .i64 (bytesK m ⟨#[]⟩)] := Blk.new _ _ _
    have E9 : Ext w3 (w4.alloc (.cells #[.string ⟨#[]⟩, .int .i64 (filesK m ⟨#[]⟩), .int .i64 (bytesK m ⟨#[]⟩)] 55)) := (((Ext.alloc _ _).trans (Ext.alloc _ _)).trans HC4.out).alloc' _
    have HV9 := hid (HV3.out.ext E9)
    have HX9 := hid (HX.out.trans E9)
    clear E9 HC4
    generalize w4.alloc (.cells #[.string ⟨#[]⟩, .int .i64 (filesK m ⟨#[]⟩), .int .i64 (bytesK m ⟨#[]⟩)] 55) = w5 at B7 B8 B9 HV9 HX9 ⊢
    generalize w3.heap.size + 1 = a8 at B8 ⊢
    generalize w3.heap.size = a7 at B7 ⊢
    generalize w4.heap.size = a9 at B9 ⊢
    clear HV3 HX
    by_cases hm0 : m.length = 0
    · have hnil := HZ.out hm0
      injection hnil with e1 e2 e3
      subst e1
      subst e3
      obtain rfl : k = 0 := by omega
      have hmm : m = [] := List.eq_nil_of_length_eq_zero hm0
      have q1 : filesK (m.take 0) p + filesK (m.take 0) p = filesK m p := by rw [hmm]; rfl
      have q2 : bytesK (m.take 0) p + bytesK (m.take 0) p = bytesK m p := by rw [hmm]; rfl
      have r1 := filesK_le m p
      have r2 := bytesK_le (l := m) p 1000 (fun x hx => (hf.2 x hx).2)
      have r3 : m.length * 1000 ≤ 20 * 1000 := Nat.mul_le_mul_right _ hlen20
      have HL1 : Hid (∀ W, Ext w5 W → Calls Try.prog 29 #[.slice none 0 0, .string p] W (Ret (.agg #[.string p, .int .i64 (filesK (m.take 0) p : Nat), .int .i64 (bytesK (m.take 0) p : Nat)]) W)) := fun W he =>
        uof_c W _ (m.take 0) p (Sl.nil W 5) ⟨by simp, by simp⟩ (by omega)
      have HL2 := HL1
      generalize filesK (m.take 0) p = f1 at q1 HL1 HL2
      generalize bytesK (m.take 0) p = b1 at q2 HL1 HL2
      clear hmm hm0 e2
      unfold maxLen at k2
      have HSum : Hid (∀ W v, NewSl 55 #[.string p, .int .i64 f1, .int .i64 b1, .string p, .int .i64 f1, .int .i64 b1] 2 2 v W → Calls Try.prog 34 #[v] W (Ret (.agg #[.string ⟨#[]⟩, .int .i64 (filesK m p : Nat), .int .i64 (bytesK m p : Nat)]) W)) := fun W v hv => by
        obtain ⟨g, rfl, hb⟩ := hv
        have hsl : Sl W 3 (.slice (some ⟨g, 0, none⟩) 2 2) (Uses [⟨p, f1, b1⟩, ⟨p, f1, b1⟩]) := Sl.of_flat hb ⟨[], rfl⟩ (uses_sz _) rfl (Nat.le_refl _) (by unfold maxLen; omega)
        have := usum_c W _ _ hsl ⟨by simp, by intro u hu; simp at hu; rcases hu with rfl | rfl <;> (constructor <;> constructor <;> simp <;> omega)⟩
        have e1 : sumF [⟨p, f1, b1⟩, ⟨p, f1, b1⟩] = ((filesK m p : Nat) : Int) := by simp [sumF]; omega
        have e2 : sumB [⟨p, f1, b1⟩, ⟨p, f1, b1⟩] = ((bytesK m p : Nat) : Int) := by simp [sumB]; omega
        rw [e1, e2] at this
        exact this
      refine wp_region_last (Rel.ext) (pre := ?pre) (z := ?z) ?hpre ?hz ((fun _ _ he h => Ext.trans h he)) (by kernel_rfl) (by kernel_rfl) (by kernel_rfl) (by kernel_rfl) ?_
      case hpre => (simp only [List.dropLast_cons_cons, List.dropLast_singleton]; first | done | exact rfl)
      case hz => (simp only [List.getLast?_cons_cons, List.getLast?_singleton]; first | done | exact rfl)
      repeat (first
        | (refine AWq.val rfl rfl rfl rfl (fun K hK => ?_); go_big_quiet_op; refine hK _ ?_; clear hK K)
        | (refine AWq.skip rfl rfl rfl ?_; simp only [Act.put, List.setIfInBounds_toArray, List.set_cons_succ, List.set_cons_zero])
        | (refine AWq.call rfl Try.func29 (by kernel_rfl) (by kernel_rfl) rfl rfl rfl ?_; apply Exists.intro; refine And.intro (fun wc hc => ?_) ?_; (· (simp only [argsOf, anyAt, ↓reduceIte, Nat.reduceEqDiff, Array.getD_eq_getD_getElem?, List.getElem?_toArray, List.getElem?_cons_succ, List.getElem?_cons_zero, Option.getD_some]; with_reducible exact HL1.out _ hc)); simp only [Act.put, List.setIfInBounds_toArray, List.set_cons_succ, List.set_cons_zero])
        | (refine AWq.call rfl Try.func29 (by kernel_rfl) (by kernel_rfl) rfl rfl rfl ?_; apply Exists.intro; refine And.intro (fun wc hc => ?_) ?_; (· (simp only [argsOf, anyAt, ↓reduceIte, Nat.reduceEqDiff, Array.getD_eq_getD_getElem?, List.getElem?_toArray, List.getElem?_cons_succ, List.getElem?_cons_zero, Option.getD_some]; with_reducible exact HL2.out _ hc)); simp only [Act.put, List.setIfInBounds_toArray, List.set_cons_succ, List.set_cons_zero])
        | (refine AWq.call rfl Try.func34 (by kernel_rfl) (by kernel_rfl) rfl rfl rfl ?_; apply Exists.intro; refine And.intro (fun wc hc => ?_) ?_; (· (simp only [argsOf, anyAt, ↓reduceIte, Nat.reduceEqDiff, Array.getD_eq_getD_getElem?, List.getElem?_toArray, List.getElem?_cons_succ, List.getElem?_cons_zero, Option.getD_some]; with_reducible exact fun v hv => HSum.out _ v hv)); simp only [Act.put, List.setIfInBounds_toArray, List.set_cons_succ, List.set_cons_zero])
        | (refine AWq.opV (NewSl 55 #[.string p, .int .i64 f1, .int .i64 b1, .string p, .int .i64 f1, .int .i64 b1] 2 2) (fun v w w' he h => NewSl.steady _ _ _ _ v w w' he h) rfl rfl rfl rfl (fun wc hc => ?_) ?_; (· (have hc' := hc.rule; clear hc; go_simp; dsimp only [Gives]; exact ⟨⟨_, rfl, Blk.new _ _ _⟩, Ext.alloc _ _⟩)))
        | (refine AWq.opV (fun v w => ∃ g, v = .pointer (some ⟨g, 0, none⟩) ∧ w5.heap.size ≤ g ∧ Blk w g 55 #[.string ⟨#[]⟩, .int .i64 0, .int .i64 0]) (fun v w w' he h => by { obtain ⟨g, h1, h2, h3⟩ := h; exact ⟨g, h1, h2, h3.ext he⟩ }) rfl rfl rfl rfl (fun wc hc => ?_) ?_; (· (have hc2 := hc.size; have hc' := hc.rule; clear hc; go_simp; dsimp only [Gives]; exact ⟨⟨_, rfl, hc2, Blk.new _ _ _⟩, Ext.alloc _ _⟩))))
      refine AWq.last rfl rfl rfl (fun w6 h6 => ?_)
      simp only [closeAny, Act.put, List.setIfInBounds_toArray, List.set_cons_succ, List.set_cons_zero]
      rintro v11 ⟨g, rfl, hg1, hg2⟩ v44 h44
      clear h44
      have n7 : a7 ≠ g := by have := B7.lt; omega
      have n8 : a8 ≠ g := by have := B8.lt; omega
      have n9 : a9 ≠ g := by have := B9.lt; omega
      have HW : w.heap.size ≤ g := Nat.le_trans HX9.out.size hg1
      rw [files_whole] at B9
      have D7 := hid (B7.ext h6)
      have D8 := hid (B8.ext h6)
      have D9 := hid (B9.ext h6)
      have D11 := hid hg2
      have g0 := hg2.cell (i := 0) (v := .string ⟨#[]⟩) rfl
      have g1 := hg2.cell (i := 1) (v := .int .i64 0) rfl
      have g2 := hg2.cell (i := 2) (v := .int .i64 0) rfl
      have z0 := hg2.frozen 0
      have z1 := hg2.frozen 1
      have z2 := hg2.frozen 2
      have lg := hg2.lt
      have HX6 := hid (HX9.out.trans h6)
      clear B7 B8 B9 hg2 h6 HL1 HL2 HSum HO HF HV9 HX9 k3
      have HCv : Hid (∀ W, Calls Try.prog 22 #[.string p, .string q] W (fun e w' => e = .returned (.bool (cov p q)) ∧ W = w')) := fun W => rcovers_c _ _ W (by unfold maxLen; omega) (by unfold maxLen; omega)
      cases hcv : cov p q with
      | true =>
        rw [hcv] at HCv
        obtain ⟨mo1, mo2⟩ := files_mono hcv m
        have d1 : decide (filesK m q ≤ filesK m p) = true := decide_eq_true mo1
        have d2 : decide (bytesK m q ≤ bytesK m p) = true := decide_eq_true mo2
        generalize filesK m p = fp at *
        generalize filesK m q = fq at *
        generalize bytesK m p = bp at *
        generalize bytesK m q = bq at *
        go_wp2_with (first
          | (go_at_call 27; refine (awake43_c _).mono ?_; rintro e w7 ⟨rfl, hx⟩; have y7 := (((D7.out.far (p := ⟨g, 0, none⟩) n7 (.string ⟨#[]⟩)).far (p := ⟨g, 1, none⟩) n7 (.int .i64 fp)).far (p := ⟨g, 2, none⟩) n7 (.int .i64 bp)).ext hx; have y8 := (((D8.out.far (p := ⟨g, 0, none⟩) n8 (.string ⟨#[]⟩)).far (p := ⟨g, 1, none⟩) n8 (.int .i64 fp)).far (p := ⟨g, 2, none⟩) n8 (.int .i64 bp)).ext hx; have y9 := (((D9.out.far (p := ⟨g, 0, none⟩) n9 (.string ⟨#[]⟩)).far (p := ⟨g, 1, none⟩) n9 (.int .i64 fp)).far (p := ⟨g, 2, none⟩) n9 (.int .i64 bp)).ext hx; have y11 := (((D11.out.set 0 (.string ⟨#[]⟩)).set 1 (.int .i64 fp)).set 2 (.int .i64 bp)).ext hx; have HX7 := hid ((((HX6.out.setCell' (p := ⟨g, 0, none⟩) HW (.string ⟨#[]⟩)).setCell' (p := ⟨g, 1, none⟩) HW (.int .i64 fp)).setCell' (p := ⟨g, 2, none⟩) HW (.int .i64 bp)).trans hx); have s71 := y7.cell (i := 1) (v := .int .i64 fp) rfl; have s72 := y7.cell (i := 2) (v := .int .i64 bp) rfl; have s81 := y8.cell (i := 1) (v := .int .i64 fq) rfl; have s82 := y8.cell (i := 2) (v := .int .i64 bq) rfl; have s91 := y9.cell (i := 1) (v := .int .i64 m.length) rfl; have s11 := y11.cell (i := 1) (v := .int .i64 fp) rfl; have s12 := y11.cell (i := 2) (v := .int .i64 bp) rfl; have l7 := y7.lt; have l8 := y8.lt; have l9 := y9.lt; have l11 := y11.lt; clear hx y7 y8 y9 y11)
          | (go_at_call 22; refine (HCv.out _).mono ?_; rintro e w8 ⟨rfl, rfl⟩))
        go_ret
        exact ⟨rfl, HX7.out⟩
      | false =>
        rw [hcv] at HCv
        generalize filesK m p = fp at *
        generalize filesK m q = fq at *
        generalize bytesK m p = bp at *
        generalize bytesK m q = bq at *
        go_wp2_with (first
          | (go_at_call 27; refine (awake43_c _).mono ?_; rintro e w7 ⟨rfl, hx⟩; have y7 := (((D7.out.far (p := ⟨g, 0, none⟩) n7 (.string ⟨#[]⟩)).far (p := ⟨g, 1, none⟩) n7 (.int .i64 fp)).far (p := ⟨g, 2, none⟩) n7 (.int .i64 bp)).ext hx; have y8 := (((D8.out.far (p := ⟨g, 0, none⟩) n8 (.string ⟨#[]⟩)).far (p := ⟨g, 1, none⟩) n8 (.int .i64 fp)).far (p := ⟨g, 2, none⟩) n8 (.int .i64 bp)).ext hx; have y9 := (((D9.out.far (p := ⟨g, 0, none⟩) n9 (.string ⟨#[]⟩)).far (p := ⟨g, 1, none⟩) n9 (.int .i64 fp)).far (p := ⟨g, 2, none⟩) n9 (.int .i64 bp)).ext hx; have y11 := (((D11.out.set 0 (.string ⟨#[]⟩)).set 1 (.int .i64 fp)).set 2 (.int .i64 bp)).ext hx; have HX7 := hid ((((HX6.out.setCell' (p := ⟨g, 0, none⟩) HW (.string ⟨#[]⟩)).setCell' (p := ⟨g, 1, none⟩) HW (.int .i64 fp)).setCell' (p := ⟨g, 2, none⟩) HW (.int .i64 bp)).trans hx); have s71 := y7.cell (i := 1) (v := .int .i64 fp) rfl; have s72 := y7.cell (i := 2) (v := .int .i64 bp) rfl; have s81 := y8.cell (i := 1) (v := .int .i64 fq) rfl; have s82 := y8.cell (i := 2) (v := .int .i64 bq) rfl; have s91 := y9.cell (i := 1) (v := .int .i64 m.length) rfl; have s11 := y11.cell (i := 1) (v := .int .i64 fp) rfl; have s12 := y11.cell (i := 2) (v := .int .i64 bp) rfl; have l7 := y7.lt; have l8 := y8.lt; have l9 := y9.lt; have l11 := y11.lt; clear hx y7 y8 y9 y11)
          | (go_at_call 22; refine (HCv.out _).mono ?_; rintro e w8 ⟨rfl, rfl⟩))
        go_ret
        exact ⟨rfl, HX7.out⟩
    · obtain ⟨b, o, rfl, _, _⟩ := k3 (by omega)
      have hkl := hk3 (by omega)
      obtain ⟨q1, q2⟩ := files_split m k p
      have r1 := filesK_le m p
      have r2 := bytesK_le (l := m) p 1000 (fun x hx => (hf.2 x hx).2)
      have r3 : m.length * 1000 ≤ 20 * 1000 := Nat.mul_le_mul_right _ hlen20
      have HL1 : Hid (∀ W, Ext w5 W → Calls Try.prog 29 #[.slice (some ⟨b, o, none⟩) k c, .string p] W (Ret (.agg #[.string p, .int .i64 (filesK (m.take k) p : Nat), .int .i64 (bytesK (m.take k) p : Nat)]) W)) := fun W he =>
        uof_c W _ (m.take k) p (by have := sl_take (m := k) (HV9.out.ext he) hk2; simpa [Leaves, List.map_take] using this) ⟨by rw [List.length_take]; omega, fun x hx => hf.2 x (List.mem_of_mem_take hx)⟩ (by omega)
      have HL2 : Hid (∀ W, Ext w5 W → Calls Try.prog 29 #[.slice (some ⟨b, o + k * 5, none⟩) (m.length - k) (c - k), .string p] W (Ret (.agg #[.string p, .int .i64 (filesK (m.drop k) p : Nat), .int .i64 (bytesK (m.drop k) p : Nat)]) W)) := fun W he =>
        uof_c W _ (m.drop k) p (by have := sl_drop (k := k) (HV9.out.ext he) hk2; simpa [Leaves, List.map_drop] using this) ⟨by rw [List.length_drop]; omega, fun x hx => hf.2 x (List.mem_of_mem_drop hx)⟩ (by omega)
      generalize filesK (m.take k) p = f1 at q1 HL1
      generalize filesK (m.drop k) p = f2 at q1 HL2
      generalize bytesK (m.take k) p = b1 at q2 HL1
      generalize bytesK (m.drop k) p = b2 at q2 HL2
      unfold maxLen at k2
      have HSum : Hid (∀ W v, NewSl 55 #[.string p, .int .i64 f1, .int .i64 b1, .string p, .int .i64 f2, .int .i64 b2] 2 2 v W → Calls Try.prog 34 #[v] W (Ret (.agg #[.string ⟨#[]⟩, .int .i64 (filesK m p : Nat), .int .i64 (bytesK m p : Nat)]) W)) := fun W v hv => by
        obtain ⟨g, rfl, hb⟩ := hv
        have hsl : Sl W 3 (.slice (some ⟨g, 0, none⟩) 2 2) (Uses [⟨p, f1, b1⟩, ⟨p, f2, b2⟩]) := Sl.of_flat hb ⟨[], rfl⟩ (uses_sz _) rfl (Nat.le_refl _) (by unfold maxLen; omega)
        have := usum_c W _ _ hsl ⟨by simp, by intro u hu; simp at hu; rcases hu with rfl | rfl <;> (constructor <;> constructor <;> simp <;> omega)⟩
        have e1 : sumF [⟨p, f1, b1⟩, ⟨p, f2, b2⟩] = ((filesK m p : Nat) : Int) := by simp [sumF]; omega
        have e2 : sumB [⟨p, f1, b1⟩, ⟨p, f2, b2⟩] = ((bytesK m p : Nat) : Int) := by simp [sumB]; omega
        rw [e1, e2] at this
        exact this
      refine wp_region_last (Rel.ext) (pre := ?pre) (z := ?z) ?hpre ?hz ((fun _ _ he h => Ext.trans h he)) (by kernel_rfl) (by kernel_rfl) (by kernel_rfl) (by kernel_rfl) ?_
      case hpre => (simp only [List.dropLast_cons_cons, List.dropLast_singleton]; first | done | exact rfl)
      case hz => (simp only [List.getLast?_cons_cons, List.getLast?_singleton]; first | done | exact rfl)
      repeat (first
        | (refine AWq.val rfl rfl rfl rfl (fun K hK => ?_); go_big_quiet_op; refine hK _ ?_; clear hK K)
        | (refine AWq.skip rfl rfl rfl ?_; simp only [Act.put, List.setIfInBounds_toArray, List.set_cons_succ, List.set_cons_zero])
        | (refine AWq.call rfl Try.func29 (by kernel_rfl) (by kernel_rfl) rfl rfl rfl ?_; apply Exists.intro; refine And.intro (fun wc hc => ?_) ?_; (· (simp only [argsOf, anyAt, ↓reduceIte, Nat.reduceEqDiff, Array.getD_eq_getD_getElem?, List.getElem?_toArray, List.getElem?_cons_succ, List.getElem?_cons_zero, Option.getD_some]; with_reducible exact HL1.out _ hc)); simp only [Act.put, List.setIfInBounds_toArray, List.set_cons_succ, List.set_cons_zero])
        | (refine AWq.call rfl Try.func29 (by kernel_rfl) (by kernel_rfl) rfl rfl rfl ?_; apply Exists.intro; refine And.intro (fun wc hc => ?_) ?_; (· (simp only [argsOf, anyAt, ↓reduceIte, Nat.reduceEqDiff, Array.getD_eq_getD_getElem?, List.getElem?_toArray, List.getElem?_cons_succ, List.getElem?_cons_zero, Option.getD_some]; with_reducible exact HL2.out _ hc)); simp only [Act.put, List.setIfInBounds_toArray, List.set_cons_succ, List.set_cons_zero])
        | (refine AWq.call rfl Try.func34 (by kernel_rfl) (by kernel_rfl) rfl rfl rfl ?_; apply Exists.intro; refine And.intro (fun wc hc => ?_) ?_; (· (simp only [argsOf, anyAt, ↓reduceIte, Nat.reduceEqDiff, Array.getD_eq_getD_getElem?, List.getElem?_toArray, List.getElem?_cons_succ, List.getElem?_cons_zero, Option.getD_some]; with_reducible exact fun v hv => HSum.out _ v hv)); simp only [Act.put, List.setIfInBounds_toArray, List.set_cons_succ, List.set_cons_zero])
        | (refine AWq.opV (NewSl 55 #[.string p, .int .i64 f1, .int .i64 b1, .string p, .int .i64 f2, .int .i64 b2] 2 2) (fun v w w' he h => NewSl.steady _ _ _ _ v w w' he h) rfl rfl rfl rfl (fun wc hc => ?_) ?_; (· (have hc' := hc.rule; clear hc; go_simp; dsimp only [Gives]; exact ⟨⟨_, rfl, Blk.new _ _ _⟩, Ext.alloc _ _⟩)))
        | (refine AWq.opV (fun v w => ∃ g, v = .pointer (some ⟨g, 0, none⟩) ∧ w5.heap.size ≤ g ∧ Blk w g 55 #[.string ⟨#[]⟩, .int .i64 0, .int .i64 0]) (fun v w w' he h => by { obtain ⟨g, h1, h2, h3⟩ := h; exact ⟨g, h1, h2, h3.ext he⟩ }) rfl rfl rfl rfl (fun wc hc => ?_) ?_; (· (have hc2 := hc.size; have hc' := hc.rule; clear hc; go_simp; dsimp only [Gives]; exact ⟨⟨_, rfl, hc2, Blk.new _ _ _⟩, Ext.alloc _ _⟩))))
      refine AWq.last rfl rfl rfl (fun w6 h6 => ?_)
      simp only [closeAny, Act.put, List.setIfInBounds_toArray, List.set_cons_succ, List.set_cons_zero]
      rintro v11 ⟨g, rfl, hg1, hg2⟩ v44 h44
      clear h44
      have n7 : a7 ≠ g := by have := B7.lt; omega
      have n8 : a8 ≠ g := by have := B8.lt; omega
      have n9 : a9 ≠ g := by have := B9.lt; omega
      have HW : w.heap.size ≤ g := Nat.le_trans HX9.out.size hg1
      rw [files_whole] at B9
      have D7 := hid (B7.ext h6)
      have D8 := hid (B8.ext h6)
      have D9 := hid (B9.ext h6)
      have D11 := hid hg2
      have g0 := hg2.cell (i := 0) (v := .string ⟨#[]⟩) rfl
      have g1 := hg2.cell (i := 1) (v := .int .i64 0) rfl
      have g2 := hg2.cell (i := 2) (v := .int .i64 0) rfl
      have z0 := hg2.frozen 0
      have z1 := hg2.frozen 1
      have z2 := hg2.frozen 2
      have lg := hg2.lt
      have HX6 := hid (HX9.out.trans h6)
      clear B7 B8 B9 hg2 h6 HL1 HL2 HSum HO HF HV9 HX9 k3
      have HCv : Hid (∀ W, Calls Try.prog 22 #[.string p, .string q] W (fun e w' => e = .returned (.bool (cov p q)) ∧ W = w')) := fun W => rcovers_c _ _ W (by unfold maxLen; omega) (by unfold maxLen; omega)
      cases hcv : cov p q with
      | true =>
        rw [hcv] at HCv
        obtain ⟨mo1, mo2⟩ := files_mono hcv m
        have d1 : decide (filesK m q ≤ filesK m p) = true := decide_eq_true mo1
        have d2 : decide (bytesK m q ≤ bytesK m p) = true := decide_eq_true mo2
        generalize filesK m p = fp at *
        generalize filesK m q = fq at *
        generalize bytesK m p = bp at *
        generalize bytesK m q = bq at *
        go_wp2_with (first
          | (go_at_call 27; refine (awake43_c _).mono ?_; rintro e w7 ⟨rfl, hx⟩; have y7 := (((D7.out.far (p := ⟨g, 0, none⟩) n7 (.string ⟨#[]⟩)).far (p := ⟨g, 1, none⟩) n7 (.int .i64 fp)).far (p := ⟨g, 2, none⟩) n7 (.int .i64 bp)).ext hx; have y8 := (((D8.out.far (p := ⟨g, 0, none⟩) n8 (.string ⟨#[]⟩)).far (p := ⟨g, 1, none⟩) n8 (.int .i64 fp)).far (p := ⟨g, 2, none⟩) n8 (.int .i64 bp)).ext hx; have y9 := (((D9.out.far (p := ⟨g, 0, none⟩) n9 (.string ⟨#[]⟩)).far (p := ⟨g, 1, none⟩) n9 (.int .i64 fp)).far (p := ⟨g, 2, none⟩) n9 (.int .i64 bp)).ext hx; have y11 := (((D11.out.set 0 (.string ⟨#[]⟩)).set 1 (.int .i64 fp)).set 2 (.int .i64 bp)).ext hx; have HX7 := hid ((((HX6.out.setCell' (p := ⟨g, 0, none⟩) HW (.string ⟨#[]⟩)).setCell' (p := ⟨g, 1, none⟩) HW (.int .i64 fp)).setCell' (p := ⟨g, 2, none⟩) HW (.int .i64 bp)).trans hx); have s71 := y7.cell (i := 1) (v := .int .i64 fp) rfl; have s72 := y7.cell (i := 2) (v := .int .i64 bp) rfl; have s81 := y8.cell (i := 1) (v := .int .i64 fq) rfl; have s82 := y8.cell (i := 2) (v := .int .i64 bq) rfl; have s91 := y9.cell (i := 1) (v := .int .i64 m.length) rfl; have s11 := y11.cell (i := 1) (v := .int .i64 fp) rfl; have s12 := y11.cell (i := 2) (v := .int .i64 bp) rfl; have l7 := y7.lt; have l8 := y8.lt; have l9 := y9.lt; have l11 := y11.lt; clear hx y7 y8 y9 y11)
          | (go_at_call 22; refine (HCv.out _).mono ?_; rintro e w8 ⟨rfl, rfl⟩))
        go_ret
        exact ⟨rfl, HX7.out⟩
      | false =>
        rw [hcv] at HCv
        generalize filesK m p = fp at *
        generalize filesK m q = fq at *
        generalize bytesK m p = bp at *
        generalize bytesK m q = bq at *
        go_wp2_with (first
          | (go_at_call 27; refine (awake43_c _).mono ?_; rintro e w7 ⟨rfl, hx⟩; have y7 := (((D7.out.far (p := ⟨g, 0, none⟩) n7 (.string ⟨#[]⟩)).far (p := ⟨g, 1, none⟩) n7 (.int .i64 fp)).far (p := ⟨g, 2, none⟩) n7 (.int .i64 bp)).ext hx; have y8 := (((D8.out.far (p := ⟨g, 0, none⟩) n8 (.string ⟨#[]⟩)).far (p := ⟨g, 1, none⟩) n8 (.int .i64 fp)).far (p := ⟨g, 2, none⟩) n8 (.int .i64 bp)).ext hx; have y9 := (((D9.out.far (p := ⟨g, 0, none⟩) n9 (.string ⟨#[]⟩)).far (p := ⟨g, 1, none⟩) n9 (.int .i64 fp)).far (p := ⟨g, 2, none⟩) n9 (.int .i64 bp)).ext hx; have y11 := (((D11.out.set 0 (.string ⟨#[]⟩)).set 1 (.int .i64 fp)).set 2 (.int .i64 bp)).ext hx; have HX7 := hid ((((HX6.out.setCell' (p := ⟨g, 0, none⟩) HW (.string ⟨#[]⟩)).setCell' (p := ⟨g, 1, none⟩) HW (.int .i64 fp)).setCell' (p := ⟨g, 2, none⟩) HW (.int .i64 bp)).trans hx); have s71 := y7.cell (i := 1) (v := .int .i64 fp) rfl; have s72 := y7.cell (i := 2) (v := .int .i64 bp) rfl; have s81 := y8.cell (i := 1) (v := .int .i64 fq) rfl; have s82 := y8.cell (i := 2) (v := .int .i64 bq) rfl; have s91 := y9.cell (i := 1) (v := .int .i64 m.length) rfl; have s11 := y11.cell (i := 1) (v := .int .i64 fp) rfl; have s12 := y11.cell (i := 2) (v := .int .i64 bp) rfl; have l7 := y7.lt; have l8 := y8.lt; have l9 := y9.lt; have l11 := y11.lt; clear hx y7 y8 y9 y11)
          | (go_at_call 22; refine (HCv.out _).mono ?_; rintro e w8 ⟨rfl, rfl⟩))
        go_ret
        exact ⟨rfl, HX7.out⟩
end Go.Proofs.Ytfoafookodldfaa
