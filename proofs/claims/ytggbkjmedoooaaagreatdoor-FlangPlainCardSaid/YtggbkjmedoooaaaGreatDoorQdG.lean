/-
  Clauses' texts: the document's One; flang.one.
  Clauses' texts: flang.one.
-/
import Derived.Test.YtggbkjmedoooaaaGreatDoorQdE
import Derived.Test.YtggbkjmedoooaaaGreatDoorQdF
import Derived.Test.YtggbkjmedoooaaaGreatDoorAwT
import Derived.Test.YtggbkjmedoooaaaGreatDoorShJ
namespace Go.Proofs.YtggbkjmedoooaaaGreatDoor
set_option linter.unusedSimpArgs false
set_option linter.unusedVariables false
open Go.RowKit

theorem run_eq_rng (a b c d : Int) (w : World) : (Op.equalIn 10000 40 (.agg #[.int .i64 a, .int .i64 b]) (.agg #[.int .i64 c, .int .i64 d])).run Tryz.prog w = .ok (decide (a = c) && decide (b = d)) w := by
  by_cases h1 : a = c <;> by_cases h2 : b = d <;> simp [go_sem, h1, h2]
/-- The text ahead of the range. -/
theorem textC_full {c : ClauseI} (h : c.lo = 0 ∧ c.hi = 200) : textC c = headC c := by
  unfold textC headC
  dsimp only
  rw [if_pos h]
theorem textC_range {c : ClauseI} (h : ¬ (c.lo = 0 ∧ c.hi = 200)) : textC c = headC c ++ ⟨#[58]⟩ ++ digK c.lo.toNat ++ ⟨#[45]⟩ ++ digK c.hi.toNat := by
  unfold textC headC
  dsimp only
  rw [if_neg h]
theorem headC_size {c : ClauseI} (h : c.pre.size ≤ 40) : (headC c).size ≤ 40 := by
  unfold headC
  split
  · rw [show (Pa.mk [42]).size = 1 from rfl]; omega
  · exact h
set_option maxRecDepth 100000 in
set_option maxHeartbeats 4000000 in
theorem rone_c (w : World) (c : ClauseI) (hr : 0 ≤ c.lo ∧ c.lo ≤ c.hi ∧ c.hi ≤ 200) (hp : c.pre.size ≤ 40) : Calls Tryz.prog 22 #[.agg #[.string c.pre, .int .i64 c.lo, .int .i64 c.hi]] w (Ret (.string (textC c)) w) := by
  have D1 := fun W => hid (rdigits_c c.lo.toNat W (by omega))
  have D2 := fun W => hid (rdigits_c c.hi.toNat W (by omega))
  rw [show ((c.lo.toNat : Nat) : Int) = c.lo by omega] at D1
  rw [show ((c.hi.toNat : Nat) : Int) = c.hi by omega] at D2
  have s1 := digK_20 c.lo.toNat (by omega)
  have s2 := digK_20 c.hi.toNat (by omega)
  have HT1 := hid (fun h => textC_full (c := c) h)
  have HT2 := hid (fun h => textC_range (c := c) h)
  have hhs := headC_size hp
  have HH : Hid (headC c = if c.pre.toList.isEmpty = true then Pa.mk [42] else c.pre) := by
    unfold Hid headC
    by_cases h : c.pre.toList = []
    · rw [if_pos h, if_pos (List.isEmpty_iff.2 h)]
    · rw [if_neg h, if_neg (fun e => h (List.isEmpty_iff.1 e))]
  generalize textC c = tx at HT1 HT2 ⊢
  generalize digK c.lo.toNat = t1 at D1 s1 HT2
  generalize digK c.hi.toNat = t2 at D2 s2 HT2
  generalize headC c = hd at HT1 HT2 HH hhs
  obtain ⟨pre, lo, hi⟩ := c
  dsimp only at *
  have HX := hid (Ext.alloc w (.cells #[.string pre, .int .i64 lo, .int .i64 hi] 42))
  have HB := hid (Blk.new w 42 #[.string pre, .int .i64 lo, .int .i64 hi])
  cases he : pre.toList.isEmpty with
  | true =>
    rw [he, if_pos rfl] at HH
    have HH : hd = ⟨#[42]⟩ := HH.out
    subst HH
    by_cases hf : lo = 0 ∧ hi = 200
    · obtain ⟨rfl, rfl⟩ := hf
      have hr := hid (HT1.out ⟨rfl, rfl⟩)
      clear HT1 HT2 D1 D2 HB
      go_enter Tryz.func22, Tryz.ntmps22
      go_wp2_with fail
      go_ret
      exact ⟨by rw [hr.out]; rfl, HX.out⟩
    · have hr := hid (HT2.out hf)
      have d12 : ((lo == 0) = true ∧ (hi == 200) = false) ∨ (lo == 0) = false := by
        by_cases h0 : lo = 0
        · exact .inl ⟨by simp [h0], by simp only [beq_eq_false_iff_ne, ne_eq]; exact fun e => hf ⟨h0, e⟩⟩
        · exact .inr (by simp [h0])
      have q1 : ((⟨#[42]⟩ : ByteArray) ++ (⟨#[58]⟩ : ByteArray)).size ≤ 41 := by rw [ByteArray.size_append]; have : (⟨#[58]⟩ : ByteArray).size = 1 := rfl; omega
      have q2 : ((⟨#[42]⟩ : ByteArray) ++ (⟨#[58]⟩ : ByteArray) ++ t1).size ≤ 61 := by rw [ByteArray.size_append]; omega
      have q3 : ((⟨#[42]⟩ : ByteArray) ++ (⟨#[58]⟩ : ByteArray) ++ t1 ++ (⟨#[45]⟩ : ByteArray)).size ≤ 62 := by rw [ByteArray.size_append]; have : (⟨#[45]⟩ : ByteArray).size = 1 := rfl; omega
      clear hf HT1 HT2
      rcases d12 with ⟨d1, d2⟩ | d1
      · go_enter Tryz.func22, Tryz.ntmps22
        go_wp2_with fail
        generalize w.alloc (.cells #[.string _, .int .i64 lo, .int .i64 hi] 42) = w0 at HX HB ⊢
        have b1 := HB.out.cell (i := 1) (v := .int .i64 lo) rfl
        have b2 := HB.out.cell (i := 2) (v := .int .i64 hi) rfl
        have bl := HB.out.lt
        refine wp_region_any_order (by kernel_rfl) (by kernel_rfl) (by kernel_rfl) ?_
        repeat (first
          | (refine AWq.val rfl rfl rfl rfl (fun K hK => ?_); go_big_quiet_op; refine hK _ ?_; clear hK K)
          | (refine AWq.skip rfl rfl rfl ?_; simp only [Act.put, List.setIfInBounds_toArray, List.set_cons_succ, List.set_cons_zero])
          | (refine AWq.call rfl Tryz.func39 (by kernel_rfl) (by kernel_rfl) rfl rfl rfl ?_; apply Exists.intro; refine And.intro (fun wc hc => ?_) ?_; (· (simp only [argsOf, anyAt, ↓reduceIte, Nat.reduceEqDiff, Array.getD_eq_getD_getElem?, List.getElem?_toArray, List.getElem?_cons_succ, List.getElem?_cons_zero, Option.getD_some]; with_reducible exact (D1 _).out)); simp only [Act.put, List.setIfInBounds_toArray, List.set_cons_succ, List.set_cons_zero])
          | (refine AWq.call rfl Tryz.func39 (by kernel_rfl) (by kernel_rfl) rfl rfl rfl ?_; apply Exists.intro; refine And.intro (fun wc hc => ?_) ?_; (· (simp only [argsOf, anyAt, ↓reduceIte, Nat.reduceEqDiff, Array.getD_eq_getD_getElem?, List.getElem?_toArray, List.getElem?_cons_succ, List.getElem?_cons_zero, Option.getD_some]; with_reducible exact (D2 _).out)); simp only [Act.put, List.setIfInBounds_toArray, List.set_cons_succ, List.set_cons_zero]))
        refine AWq.done rfl rfl rfl (fun w2 x2 => ?_)
        simp only [closeAny, Act.put, List.setIfInBounds_toArray, List.set_cons_succ, List.set_cons_zero]
        go_wp2_with fail
        go_ret
        exact ⟨by rw [hr.out]; rfl, HX.out.trans x2⟩
      · go_enter Tryz.func22, Tryz.ntmps22
        go_wp2_with fail
        generalize w.alloc (.cells #[.string _, .int .i64 lo, .int .i64 hi] 42) = w0 at HX HB ⊢
        have b1 := HB.out.cell (i := 1) (v := .int .i64 lo) rfl
        have b2 := HB.out.cell (i := 2) (v := .int .i64 hi) rfl
        have bl := HB.out.lt
        refine wp_region_any_order (by kernel_rfl) (by kernel_rfl) (by kernel_rfl) ?_
        repeat (first
          | (refine AWq.val rfl rfl rfl rfl (fun K hK => ?_); go_big_quiet_op; refine hK _ ?_; clear hK K)
          | (refine AWq.skip rfl rfl rfl ?_; simp only [Act.put, List.setIfInBounds_toArray, List.set_cons_succ, List.set_cons_zero])
          | (refine AWq.call rfl Tryz.func39 (by kernel_rfl) (by kernel_rfl) rfl rfl rfl ?_; apply Exists.intro; refine And.intro (fun wc hc => ?_) ?_; (· (simp only [argsOf, anyAt, ↓reduceIte, Nat.reduceEqDiff, Array.getD_eq_getD_getElem?, List.getElem?_toArray, List.getElem?_cons_succ, List.getElem?_cons_zero, Option.getD_some]; with_reducible exact (D1 _).out)); simp only [Act.put, List.setIfInBounds_toArray, List.set_cons_succ, List.set_cons_zero])
          | (refine AWq.call rfl Tryz.func39 (by kernel_rfl) (by kernel_rfl) rfl rfl rfl ?_; apply Exists.intro; refine And.intro (fun wc hc => ?_) ?_; (· (simp only [argsOf, anyAt, ↓reduceIte, Nat.reduceEqDiff, Array.getD_eq_getD_getElem?, List.getElem?_toArray, List.getElem?_cons_succ, List.getElem?_cons_zero, Option.getD_some]; with_reducible exact (D2 _).out)); simp only [Act.put, List.setIfInBounds_toArray, List.set_cons_succ, List.set_cons_zero]))
        refine AWq.done rfl rfl rfl (fun w2 x2 => ?_)
        simp only [closeAny, Act.put, List.setIfInBounds_toArray, List.set_cons_succ, List.set_cons_zero]
        go_wp2_with fail
        go_ret
        exact ⟨by rw [hr.out]; rfl, HX.out.trans x2⟩
  | false =>
    rw [he, if_neg (by simp)] at HH
    have HH : hd = pre := HH.out
    subst HH
    by_cases hf : lo = 0 ∧ hi = 200
    · obtain ⟨rfl, rfl⟩ := hf
      have hr := hid (HT1.out ⟨rfl, rfl⟩)
      clear HT1 HT2 D1 D2 HB
      go_enter Tryz.func22, Tryz.ntmps22
      go_wp2_with fail
      go_ret
      exact ⟨by rw [hr.out]; rfl, HX.out⟩
    · have hr := hid (HT2.out hf)
      have d12 : ((lo == 0) = true ∧ (hi == 200) = false) ∨ (lo == 0) = false := by
        by_cases h0 : lo = 0
        · exact .inl ⟨by simp [h0], by simp only [beq_eq_false_iff_ne, ne_eq]; exact fun e => hf ⟨h0, e⟩⟩
        · exact .inr (by simp [h0])
      have q1 : ((hd : ByteArray) ++ (⟨#[58]⟩ : ByteArray)).size ≤ 41 := by rw [ByteArray.size_append]; have : (⟨#[58]⟩ : ByteArray).size = 1 := rfl; omega
      have q2 : ((hd : ByteArray) ++ (⟨#[58]⟩ : ByteArray) ++ t1).size ≤ 61 := by rw [ByteArray.size_append]; omega
      have q3 : ((hd : ByteArray) ++ (⟨#[58]⟩ : ByteArray) ++ t1 ++ (⟨#[45]⟩ : ByteArray)).size ≤ 62 := by rw [ByteArray.size_append]; have : (⟨#[45]⟩ : ByteArray).size = 1 := rfl; omega
      clear hf HT1 HT2
      rcases d12 with ⟨d1, d2⟩ | d1
      · go_enter Tryz.func22, Tryz.ntmps22
        go_wp2_with fail
        generalize w.alloc (.cells #[.string _, .int .i64 lo, .int .i64 hi] 42) = w0 at HX HB ⊢
        have b1 := HB.out.cell (i := 1) (v := .int .i64 lo) rfl
        have b2 := HB.out.cell (i := 2) (v := .int .i64 hi) rfl
        have bl := HB.out.lt
        refine wp_region_any_order (by kernel_rfl) (by kernel_rfl) (by kernel_rfl) ?_
        repeat (first
          | (refine AWq.val rfl rfl rfl rfl (fun K hK => ?_); go_big_quiet_op; refine hK _ ?_; clear hK K)
          | (refine AWq.skip rfl rfl rfl ?_; simp only [Act.put, List.setIfInBounds_toArray, List.set_cons_succ, List.set_cons_zero])
          | (refine AWq.call rfl Tryz.func39 (by kernel_rfl) (by kernel_rfl) rfl rfl rfl ?_; apply Exists.intro; refine And.intro (fun wc hc => ?_) ?_; (· (simp only [argsOf, anyAt, ↓reduceIte, Nat.reduceEqDiff, Array.getD_eq_getD_getElem?, List.getElem?_toArray, List.getElem?_cons_succ, List.getElem?_cons_zero, Option.getD_some]; with_reducible exact (D1 _).out)); simp only [Act.put, List.setIfInBounds_toArray, List.set_cons_succ, List.set_cons_zero])
          | (refine AWq.call rfl Tryz.func39 (by kernel_rfl) (by kernel_rfl) rfl rfl rfl ?_; apply Exists.intro; refine And.intro (fun wc hc => ?_) ?_; (· (simp only [argsOf, anyAt, ↓reduceIte, Nat.reduceEqDiff, Array.getD_eq_getD_getElem?, List.getElem?_toArray, List.getElem?_cons_succ, List.getElem?_cons_zero, Option.getD_some]; with_reducible exact (D2 _).out)); simp only [Act.put, List.setIfInBounds_toArray, List.set_cons_succ, List.set_cons_zero]))
        refine AWq.done rfl rfl rfl (fun w2 x2 => ?_)
        simp only [closeAny, Act.put, List.setIfInBounds_toArray, List.set_cons_succ, List.set_cons_zero]
        go_wp2_with fail
        go_ret
        exact ⟨by rw [hr.out]; rfl, HX.out.trans x2⟩
      · go_enter Tryz.func22, Tryz.ntmps22
        go_wp2_with fail
        generalize w.alloc (.cells #[.string _, .int .i64 lo, .int .i64 hi] 42) = w0 at HX HB ⊢
        have b1 := HB.out.cell (i := 1) (v := .int .i64 lo) rfl
        have b2 := HB.out.cell (i := 2) (v := .int .i64 hi) rfl
        have bl := HB.out.lt
        refine wp_region_any_order (by kernel_rfl) (by kernel_rfl) (by kernel_rfl) ?_
        repeat (first
          | (refine AWq.val rfl rfl rfl rfl (fun K hK => ?_); go_big_quiet_op; refine hK _ ?_; clear hK K)
          | (refine AWq.skip rfl rfl rfl ?_; simp only [Act.put, List.setIfInBounds_toArray, List.set_cons_succ, List.set_cons_zero])
          | (refine AWq.call rfl Tryz.func39 (by kernel_rfl) (by kernel_rfl) rfl rfl rfl ?_; apply Exists.intro; refine And.intro (fun wc hc => ?_) ?_; (· (simp only [argsOf, anyAt, ↓reduceIte, Nat.reduceEqDiff, Array.getD_eq_getD_getElem?, List.getElem?_toArray, List.getElem?_cons_succ, List.getElem?_cons_zero, Option.getD_some]; with_reducible exact (D1 _).out)); simp only [Act.put, List.setIfInBounds_toArray, List.set_cons_succ, List.set_cons_zero])
          | (refine AWq.call rfl Tryz.func39 (by kernel_rfl) (by kernel_rfl) rfl rfl rfl ?_; apply Exists.intro; refine And.intro (fun wc hc => ?_) ?_; (· (simp only [argsOf, anyAt, ↓reduceIte, Nat.reduceEqDiff, Array.getD_eq_getD_getElem?, List.getElem?_toArray, List.getElem?_cons_succ, List.getElem?_cons_zero, Option.getD_some]; with_reducible exact (D2 _).out)); simp only [Act.put, List.setIfInBounds_toArray, List.set_cons_succ, List.set_cons_zero]))
        refine AWq.done rfl rfl rfl (fun w2 x2 => ?_)
        simp only [closeAny, Act.put, List.setIfInBounds_toArray, List.set_cons_succ, List.set_cons_zero]
        go_wp2_with fail
        go_ret
        exact ⟨by rw [hr.out]; rfl, HX.out.trans x2⟩
end Go.Proofs.YtggbkjmedoooaaaGreatDoor
namespace Go.Proofs.YtggbkjmedoooaaaGreatDoor
set_option linter.unusedSimpArgs false
set_option linter.unusedVariables false
open Go.RowKit

theorem join_five (a b c d e : ByteArray) : (⟨(Lib.join ([a, b, c, d, e].map (·.data.toList)) []).toArray⟩ : ByteArray) = a ++ b ++ c ++ d ++ e := by
  apply ByteArray.ext
  simp only [ByteArray.data_append, List.map_cons, List.map_nil, Lib.join_cons, Lib.joinTail]
  apply Array.ext'
  simp
set_option maxRecDepth 100000 in
set_option maxHeartbeats 4000000 in
theorem one1_c (w : World) (g : Nat) (a b c d e : ByteArray) (hsz : (a ++ b ++ c ++ d ++ e).size ≤ 1000) (hB : Blk w g 9 #[.string a, .string b, .string c, .string d, .string e]) : Calls Tryz.prog 30 #[.slice (some ⟨g, 0, none⟩) 5 5] w (Ret (.string (a ++ b ++ c ++ d ++ e)) w) := by
  have hcells : ∀ (j : Nat) x, [a, b, c, d, e][j]? = some x → w.cell? ⟨g, 0 + j, none⟩ = some (.string x) := fun j x hx => by
    rw [Nat.zero_add]
    refine hB.cell ?_
    match j, hx with
    | 0, hx => simp at hx; subst hx; rfl
    | 1, hx => simp at hx; subst hx; rfl
    | 2, hx => simp at hx; subst hx; rfl
    | 3, hx => simp at hx; subst hx; rfl
    | 4, hx => simp at hx; subst hx; rfl
    | j + 5, hx => simp at hx
  have HJ := hid (Tryz.strings_Join g 0 5 [a, b, c, d, e] ⟨#[]⟩ w hcells hB.lt (by simp) (by simp) (by
    have h := congrArg ByteArray.size (join_five a b c d e)
    have h2 : (⟨(Lib.join ([a, b, c, d, e].map (·.data.toList)) []).toArray⟩ : ByteArray).size = (Lib.join ([a, b, c, d, e].map (·.data.toList)) []).length := by
      show (Lib.join ([a, b, c, d, e].map (·.data.toList)) []).toArray.size = _
      simp
    show (Lib.join ([a, b, c, d, e].map (·.data.toList)) []).length ≤ _
    omega))
  rw [show (⟨#[]⟩ : ByteArray).data.toList = [] from rfl, join_five] at HJ
  generalize a ++ b ++ c ++ d ++ e = r at HJ hsz ⊢
  clear hcells hB
  go_enter Tryz.func30, Tryz.ntmps30
  go_wp2_with fail
  refine (HJ.out).mono ?_
  rintro en w2 ⟨rfl, x2⟩
  have HX := hid (Ext.of_below x2)
  clear x2
  go_wp2_with fail
  go_ret
  exact ⟨rfl, HX.out⟩
set_option maxRecDepth 100000 in
set_option maxHeartbeats 4000000 in
theorem one_c (w : World) (c : ClauseI) (hr : 0 ≤ c.lo ∧ c.lo ≤ c.hi ∧ c.hi ≤ 200) (hp : c.pre.size ≤ 40) : Calls Tryz.prog 17 #[.agg #[.string c.pre, .int .i64 c.lo, .int .i64 c.hi]] w (Ret (.string (textC c)) w) := by
  have D1 := fun W => hid (fdigits_c c.lo.toNat W (by omega))
  have D2 := fun W => hid (fdigits_c c.hi.toNat W (by omega))
  rw [show ((c.lo.toNat : Nat) : Int) = c.lo by omega] at D1
  rw [show ((c.hi.toNat : Nat) : Int) = c.hi by omega] at D2
  have s1 := digK_20 c.lo.toNat (by omega)
  have s2 := digK_20 c.hi.toNat (by omega)
  have HT1 := hid (fun h => textC_full (c := c) h)
  have HT2 := hid (fun h => textC_range (c := c) h)
  have hhs := headC_size hp
  have HH : Hid (headC c = if c.pre.toList.isEmpty = true then Pa.mk [42] else c.pre) := by
    unfold Hid headC
    by_cases h : c.pre.toList = []
    · rw [if_pos h, if_pos (List.isEmpty_iff.2 h)]
    · rw [if_neg h, if_neg (fun e => h (List.isEmpty_iff.1 e))]
  have H1 := fun W g (hg : Blk W g 9 #[.string (headC c), .string ⟨#[58]⟩, .string (digK c.lo.toNat), .string ⟨#[45]⟩, .string (digK c.hi.toNat)]) => hid (one1_c W g (headC c) ⟨#[58]⟩ (digK c.lo.toNat) ⟨#[45]⟩ (digK c.hi.toNat) (by
    rw [ByteArray.size_append, ByteArray.size_append, ByteArray.size_append, ByteArray.size_append]
    have e1 : (⟨#[58]⟩ : ByteArray).size = 1 := rfl
    have e2 : (⟨#[45]⟩ : ByteArray).size = 1 := rfl
    omega) hg)
  generalize textC c = tx at HT1 HT2 ⊢
  generalize digK c.lo.toNat = t1 at D1 s1 HT2 H1
  generalize digK c.hi.toNat = t2 at D2 s2 HT2 H1
  generalize headC c = hd at HT1 HT2 HH hhs H1
  obtain ⟨pre, lo, hi⟩ := c
  dsimp only at *
  have HX := hid (Ext.alloc w (.cells #[.string pre, .int .i64 lo, .int .i64 hi] 42))
  have HB := hid (Blk.new w 42 #[.string pre, .int .i64 lo, .int .i64 hi])
  cases he : pre.toList.isEmpty with
  | true =>
    rw [he, if_pos rfl] at HH
    have HH : hd = ⟨#[42]⟩ := HH.out
    subst HH
    by_cases hf : lo = 0 ∧ hi = 200
    · obtain ⟨rfl, rfl⟩ := hf
      have hr := hid (HT1.out ⟨rfl, rfl⟩)
      have HEq := fun W => run_eq_rng 0 200 0 200 W
      simp only [decide_true, Bool.and_self] at HEq
      clear HT1 HT2 D1 D2 HB H1
      go_enter Tryz.func17, Tryz.ntmps17
      go_wp2_with fail
      go_ret
      exact ⟨by rw [hr.out]; rfl, HX.out⟩
    · have hr := hid (HT2.out hf)
      have HEq := fun W => run_eq_rng lo hi 0 200 W
      have hd : (decide (lo = 0) && decide (hi = 200)) = false := by
        by_cases h0 : lo = 0
        · rw [decide_eq_true h0, decide_eq_false (fun e => hf ⟨h0, e⟩)]; rfl
        · rw [decide_eq_false h0]; rfl
      rw [hd] at HEq
      have H1' := fun W g => H1 W g
      clear hf HT1 HT2 hd H1
      go_enter Tryz.func17, Tryz.ntmps17
      go_wp2_with fail
      generalize w.alloc (.cells #[.string _, .int .i64 lo, .int .i64 hi] 42) = w0 at HX HB ⊢
      have b1 := HB.out.cell (i := 1) (v := .int .i64 lo) rfl
      have b2 := HB.out.cell (i := 2) (v := .int .i64 hi) rfl
      have bl := HB.out.lt
      refine wp_region_tail (pre := ?pre1) (tl := ?tl1) 11 ?hpre1 ?htl1 (of_decide_eq_true (by kernel_rfl)) (by kernel_rfl) (by kernel_rfl) (by kernel_rfl) (by kernel_rfl) ?_
      case hpre1 => (simp only [List.take_succ_cons, List.take_zero]; first | done | exact rfl)
      case htl1 => (simp only [List.drop_succ_cons, List.drop_zero]; first | done | exact rfl)
      repeat (first
        | (refine AWq.val rfl rfl rfl rfl (fun K hK => ?_); go_big_quiet_op; refine hK _ ?_; clear hK K)
        | (refine AWq.skip rfl rfl rfl ?_; simp only [Act.put, List.setIfInBounds_toArray, List.set_cons_succ, List.set_cons_zero])
        | (refine AWq.call rfl Tryz.func31 (by kernel_rfl) (by kernel_rfl) rfl rfl rfl ?_; apply Exists.intro; refine And.intro (fun wc hc => ?_) ?_; (· (simp only [argsOf, anyAt, ↓reduceIte, Nat.reduceEqDiff, Array.getD_eq_getD_getElem?, List.getElem?_toArray, List.getElem?_cons_succ, List.getElem?_cons_zero, Option.getD_some]; with_reducible exact (D1 _).out)); simp only [Act.put, List.setIfInBounds_toArray, List.set_cons_succ, List.set_cons_zero])
        | (refine AWq.call rfl Tryz.func31 (by kernel_rfl) (by kernel_rfl) rfl rfl rfl ?_; apply Exists.intro; refine And.intro (fun wc hc => ?_) ?_; (· (simp only [argsOf, anyAt, ↓reduceIte, Nat.reduceEqDiff, Array.getD_eq_getD_getElem?, List.getElem?_toArray, List.getElem?_cons_succ, List.getElem?_cons_zero, Option.getD_some]; with_reducible exact (D2 _).out)); simp only [Act.put, List.setIfInBounds_toArray, List.set_cons_succ, List.set_cons_zero])
        | (refine AWq.opV (NewSl 9 #[.string ⟨#[42]⟩, .string ⟨#[58]⟩, .string t1, .string ⟨#[45]⟩, .string t2] 5 5) (NewSl.steady _ _ _ _) rfl rfl rfl rfl (fun wc hc => ?_) ?_; (· (have hc' := hc.rule; clear hc; go_simp; dsimp only [Gives]; exact ⟨⟨_, rfl, Blk.new _ _ _⟩, Ext.alloc _ _⟩))))
      refine AWq.tail rfl rfl rfl (fun w2 x2 => ?_)
      simp only [closeAny, Act.put, List.setIfInBounds_toArray, List.set_cons_succ, List.set_cons_zero]
      rintro y24 ⟨g, rfl, hg⟩
      have HG := hid hg
      clear hg
      go_wp2_with fail
      refine ((H1' _ _ HG.out).out).mono ?_
      rintro en w3 ⟨rfl, x3⟩
      have HX3 := hid ((HX.out.trans x2).trans x3)
      clear x3
      go_wp2_with fail
      go_ret
      exact ⟨by rw [hr.out]; rfl, HX3.out⟩
  | false =>
    rw [he, if_neg (by simp)] at HH
    have HH : hd = pre := HH.out
    subst HH
    by_cases hf : lo = 0 ∧ hi = 200
    · obtain ⟨rfl, rfl⟩ := hf
      have hr := hid (HT1.out ⟨rfl, rfl⟩)
      have HEq := fun W => run_eq_rng 0 200 0 200 W
      simp only [decide_true, Bool.and_self] at HEq
      clear HT1 HT2 D1 D2 HB H1
      go_enter Tryz.func17, Tryz.ntmps17
      go_wp2_with fail
      go_ret
      exact ⟨by rw [hr.out]; rfl, HX.out⟩
    · have hr := hid (HT2.out hf)
      have HEq := fun W => run_eq_rng lo hi 0 200 W
      have hd : (decide (lo = 0) && decide (hi = 200)) = false := by
        by_cases h0 : lo = 0
        · rw [decide_eq_true h0, decide_eq_false (fun e => hf ⟨h0, e⟩)]; rfl
        · rw [decide_eq_false h0]; rfl
      rw [hd] at HEq
      have H1' := fun W g => H1 W g
      clear hf HT1 HT2 hd H1
      go_enter Tryz.func17, Tryz.ntmps17
      go_wp2_with fail
      generalize w.alloc (.cells #[.string _, .int .i64 lo, .int .i64 hi] 42) = w0 at HX HB ⊢
      have b1 := HB.out.cell (i := 1) (v := .int .i64 lo) rfl
      have b2 := HB.out.cell (i := 2) (v := .int .i64 hi) rfl
      have bl := HB.out.lt
      refine wp_region_tail (pre := ?pre2) (tl := ?tl2) 11 ?hpre2 ?htl2 (of_decide_eq_true (by kernel_rfl)) (by kernel_rfl) (by kernel_rfl) (by kernel_rfl) (by kernel_rfl) ?_
      case hpre2 => (simp only [List.take_succ_cons, List.take_zero]; first | done | exact rfl)
      case htl2 => (simp only [List.drop_succ_cons, List.drop_zero]; first | done | exact rfl)
      repeat (first
        | (refine AWq.val rfl rfl rfl rfl (fun K hK => ?_); go_big_quiet_op; refine hK _ ?_; clear hK K)
        | (refine AWq.skip rfl rfl rfl ?_; simp only [Act.put, List.setIfInBounds_toArray, List.set_cons_succ, List.set_cons_zero])
        | (refine AWq.call rfl Tryz.func31 (by kernel_rfl) (by kernel_rfl) rfl rfl rfl ?_; apply Exists.intro; refine And.intro (fun wc hc => ?_) ?_; (· (simp only [argsOf, anyAt, ↓reduceIte, Nat.reduceEqDiff, Array.getD_eq_getD_getElem?, List.getElem?_toArray, List.getElem?_cons_succ, List.getElem?_cons_zero, Option.getD_some]; with_reducible exact (D1 _).out)); simp only [Act.put, List.setIfInBounds_toArray, List.set_cons_succ, List.set_cons_zero])
        | (refine AWq.call rfl Tryz.func31 (by kernel_rfl) (by kernel_rfl) rfl rfl rfl ?_; apply Exists.intro; refine And.intro (fun wc hc => ?_) ?_; (· (simp only [argsOf, anyAt, ↓reduceIte, Nat.reduceEqDiff, Array.getD_eq_getD_getElem?, List.getElem?_toArray, List.getElem?_cons_succ, List.getElem?_cons_zero, Option.getD_some]; with_reducible exact (D2 _).out)); simp only [Act.put, List.setIfInBounds_toArray, List.set_cons_succ, List.set_cons_zero])
        | (refine AWq.opV (NewSl 9 #[.string hd, .string ⟨#[58]⟩, .string t1, .string ⟨#[45]⟩, .string t2] 5 5) (NewSl.steady _ _ _ _) rfl rfl rfl rfl (fun wc hc => ?_) ?_; (· (have hc' := hc.rule; clear hc; go_simp; dsimp only [Gives]; exact ⟨⟨_, rfl, Blk.new _ _ _⟩, Ext.alloc _ _⟩))))
      refine AWq.tail rfl rfl rfl (fun w2 x2 => ?_)
      simp only [closeAny, Act.put, List.setIfInBounds_toArray, List.set_cons_succ, List.set_cons_zero]
      rintro y24 ⟨g, rfl, hg⟩
      have HG := hid hg
      clear hg
      go_wp2_with fail
      refine ((H1' _ _ HG.out).out).mono ?_
      rintro en w3 ⟨rfl, x3⟩
      have HX3 := hid ((HX.out.trans x2).trans x3)
      clear x3
      go_wp2_with fail
      go_ret
      exact ⟨by rw [hr.out]; rfl, HX3.out⟩
end Go.Proofs.YtggbkjmedoooaaaGreatDoor
