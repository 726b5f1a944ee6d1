/-
  One filter has all of another one: plain laws.
  cover.digits.
  cover.missing, Witness, Subsumes.
  cover.Subsumes; the document's Missing, Subsumes, Filter.
  Replicas that stand above one another: plain laws.
-/
import Derived.Test.YtjnjamhohnnefaaGreatDoorPkD
import Derived.Laws.BytesString
import Derived.Test.YtjnjamhohnnefaaGreatDoorRes
import Derived.Test.YtjnjamhohnnefaaGreatDoorBase
namespace Go.Proofs.YtjnjamhohnnefaaGreatDoor
set_option linter.unusedSimpArgs false
set_option linter.unusedVariables false
open Go.RowKit Go.Sort

/-- f has, at each path, all sizes of g. -/
def Has (f g : List ClauseI) : Prop := ∀ p n, sizes (selR g p) n → sizes (selR f p) n
noncomputable def hasB (f g : List ClauseI) : Bool := @decide (Has f g) (Classical.propDecidable _)
theorem hasB_yes {f g : List ClauseI} (h : Has f g) : hasB f g = true := @decide_eq_true _ (Classical.propDecidable _) h
theorem hasB_no {f g : List ClauseI} (h : ¬ Has f g) : hasB f g = false := @decide_eq_false _ (Classical.propDecidable _) h
theorem hasB_iff {f g : List ClauseI} : hasB f g = true ↔ Has f g := ⟨fun h => @of_decide_eq_true _ (Classical.propDecidable _) h, hasB_yes⟩
theorem has_like {f g : List ClauseI} (h : Like f g) : Has f g := fun p n => (h p n).2
/-- What a clause has at its prefix and a filter has not. -/
noncomputable def missR (f : List ClauseI) (c : ClauseI) : List Rng := nf fun n => sizes [rngOf c] n ∧ ¬ sizes (nf (sizes (selR f c.pre))) n
theorem missR_nil (f : List ClauseI) (c : ClauseI) : (missR f c).length = 0 ↔ ∀ n, sizes [rngOf c] n → sizes (selR f c.pre) n := by
  obtain ⟨h1, h2⟩ := diff_form [rngOf c] (nf (sizes (selR f c.pre)))
  rw [show missR f c = nf fun n => sizes [rngOf c] n ∧ ¬ sizes (nf (sizes (selR f c.pre))) n from rfl, nil_of_form h1 h2]
  have e : ∀ n, sizes (nf (sizes (selR f c.pre))) n ↔ sizes (selR f c.pre) n := fun n => by rw [sizes_form (nf_form _).1, (nf_form _).2.1]
  constructor
  · intro h n hd
    exact Classical.byContradiction fun hn => h n ⟨hd, fun k => hn ((e n).1 k)⟩
  · rintro h n ⟨hd, hn⟩
    exact hn ((e n).2 (h n hd))
theorem missR_len (f : List ClauseI) (c : ClauseI) : (missR f c).length ≤ 101 := form_len (diff_form _ _).1
theorem has_norm {f g : List ClauseI} : (∀ c ∈ normF g, (missR f c).length = 0) ↔ Has f g := by
  constructor
  · intro h p n hd
    obtain ⟨n0, n1, c, hc, h1, h2, h3⟩ := (D_iff _ p n).1 ((D_norm g p n).2 hd)
    obtain ⟨_, _, c', hc', k1, k2⟩ := (D_iff f c.pre n).1 ((missR_nil f c).1 (h c hc) n ⟨n0, n1, rngOf c, by simp, h2, h3⟩)
    exact (D_iff f p n).2 ⟨n0, n1, c', hc', cov_trans k1 h1, k2⟩
  · intro h c hc
    refine (missR_nil f c).2 fun n hn => ?_
    obtain ⟨n0, n1, r, hr, h2, h3⟩ := hn
    rw [List.mem_singleton.1 hr] at h2 h3
    exact h c.pre n ((D_norm g c.pre n).1 ((D_iff _ c.pre n).2 ⟨n0, n1, c, hc, cov_refl _, h2, h3⟩))
theorem has_pre {f g : List ClauseI} : (∀ p ∈ preS g, (difR g f p).length = 0) ↔ Has f g := by
  constructor
  · intro h p n hd
    obtain ⟨n0, n1, c, hc, h1, h2, h3⟩ := (D_iff g p n).1 hd
    obtain ⟨_, _, c', hc', k1, k2⟩ := (D_iff f c.pre n).1 ((difR_nil g f c.pre).1 (h c.pre ((mem_preS g _).2 ⟨c, hc, rfl⟩)) n ((D_iff g _ n).2 ⟨n0, n1, c, hc, cov_refl _, h2, h3⟩))
    exact (D_iff f p n).2 ⟨n0, n1, c', hc', cov_trans k1 h1, k2⟩
  · intro h p _
    exact (difR_nil g f p).2 fun n => h p n
end Go.Proofs.YtjnjamhohnnefaaGreatDoor
namespace Go.Proofs.YtjnjamhohnnefaaGreatDoor
set_option linter.unusedSimpArgs false
set_option linter.unusedVariables false
open Go.RowKit Go.Sort

/-- a digit's byte -/
def dgB (n : Nat) : UInt8 := UInt8.ofNat (48 + n)
theorem nil_append (s : ByteArray) : (⟨#[]⟩ : ByteArray) ++ s = s := by
  apply ByteArray.ext
  rw [ByteArray.data_append]; simp
def digK (n : Nat) : ByteArray := if h : n < 10 then ⟨#[dgB n]⟩ else digK (n / 10) ++ ⟨#[dgB (n % 10)]⟩
termination_by n
decreasing_by omega
theorem digK_small {n : Nat} (h : n < 10) : digK n = ⟨#[dgB n]⟩ := by rw [digK, dif_pos h]
theorem digK_big {n : Nat} (h : ¬ n < 10) : digK n = digK (n / 10) ++ ⟨#[dgB (n % 10)]⟩ := by rw [digK, dif_neg h]
theorem digK_size : ∀ (d n : Nat), n < 10 ^ (d + 1) → (digK n).size ≤ d + 1
  | 0, n, h => by rw [digK_small (by simpa using h)]; exact Nat.le_refl _
  | d + 1, n, h => by
    by_cases hn : n < 10
    · rw [digK_small hn]; show 1 ≤ _; omega
    · rw [digK_big hn, ByteArray.size_append]
      have := digK_size d (n / 10) (by rw [Nat.pow_succ] at h; omega)
      have e : (⟨#[dgB (n % 10)]⟩ : ByteArray).size = 1 := rfl
      omega
theorem digK_20 (n : Nat) (h : n ≤ 9223372036854775807) : (digK n).size ≤ 20 := digK_size 19 n (by
  have : (10 : Nat) ^ (19 + 1) = 100000000000000000000 := by decide
  omega)
theorem conv_one (w : World) (z : Int) : (convert 135 9 (.slice (some ⟨w.heap.size, 0, none⟩) 1 1)).run Tryz.prog (w.alloc (.cells #[.int .u8 z] 5)) = .ok (.string ⟨#[UInt8.ofNat z.toNat]⟩) (w.alloc (.cells #[.int .u8 z] 5)) := by
  rw [run_convert_bytes_string _ _ _ 5 _ _ _ Tryz.underlying135 Tryz.underlying5 Tryz.underlying9]
  rw [run_bytesToString _ _ _ _ [z] (by simp [go_sem])]
  rfl
set_option maxRecDepth 100000 in
set_option maxHeartbeats 1000000 in
theorem cdigits_c : ∀ (n : Nat) (w : World), n ≤ 1000000 → Calls Tryz.prog 120 #[.int .i64 n] w (Ret (.string (digK n)) w) := by
  intro n
  induction n using Nat.strongRecOn with
  | ind n ih =>
    intro w h
    by_cases hn : n < 10
    · have d0 : decide ((n : Int) < 10) = true := by simp; omega
      have hc := fun W => conv_one W (48 + (n : Int))
      have e : (48 + (n : Int)).toNat = 48 + n := by omega
      rw [e] at hc
      have HC : ∀ W : World, _ = Result.ok (Value.string ⟨#[dgB n]⟩) _ := fun W => hc W
      rw [digK_small hn]
      clear e hc ih
      generalize dgB n = z at HC ⊢
      go_enter Tryz.func120, Tryz.ntmps120
      go_wp2_with fail
      go_ret
      exact ⟨rfl, Ext.alloc _ _⟩
    · have d0 : decide ((n : Int) < 10) = false := by simp; omega
      have hsz := digK_20 (n / 10) (by omega)
      have HI := fun W => hid (ih (n / 10) (by omega) W (by omega))
      have HJ := fun W => hid (ih (n % 10) (by omega) W (by omega))
      rw [digK_big hn]
      rw [digK_small (n := n % 10) (by omega)] at HJ
      have e1 : ((n / 10 : Nat) : Int) = (n : Int) / 10 := by omega
      have e2 : ((n % 10 : Nat) : Int) = (n : Int) % 10 := by omega
      rw [e1] at HI
      rw [e2] at HJ
      clear ih
      generalize dgB (n % 10) = z at HJ ⊢
      generalize digK (n / 10) = t at HI hsz ⊢
      go_enter Tryz.func120, Tryz.ntmps120
      go_wp2_with (first
        | (go_at_call 120; have hx0 := HX1.out; clear hx0; refine ((HJ _).out).mono ?_; rintro e w2 ⟨rfl, hx⟩; have HX2 := hid (HX1.out.trans hx); clear hx)
        | (go_at_call 120; refine ((HI _).out).mono ?_; rintro e w1 ⟨rfl, hx⟩; have HX1 := hid hx; clear hx))
      go_ret
      exact ⟨rfl, HX2.out⟩
set_option maxRecDepth 100000 in
set_option maxHeartbeats 1000000 in
theorem hasName_e (w : World) (q : Nat) (v : Value) (l : List ClauseI) (n : ByteArray) (hq : Blk w q 30 #[v]) (h : Sl w 3 v (l.map ClauseI.cells)) : Calls Tryz.prog 119 #[.string n, .pointer (some ⟨q, 0, none⟩)] w (RetQ (fun u _ => ∃ b, u = .bool b) w) := by
  obtain ⟨A, c, rfl, h1, h2, h3⟩ := sl_get h
  unfold maxLen at h2
  have q0 := hq.cell (i := 0) (v := .slice A l.length c) rfl
  have lq := hq.lt
  clear h hq
  go_enter Tryz.func119, Tryz.ntmps119
  go_wp2_with fail
  go_loopw [8] (fun i wr => ∃ k : Nat, k ≤ l.length ∧ i = .int .i64 k ∧ Ext w wr) (fun i _ => l.length - (intOf i).toNat)
  case atStart => exact ⟨0, by omega, rfl, Ext.refl _⟩
  case round =>
    obtain ⟨k, hk, rfl, hE⟩ := hrel
    have HE := hid hE
    by_cases hlt : k < l.length
    · obtain ⟨b, o, rfl, lb, hcell⟩ := h3 (by omega)
      have c0 := hE.cell (hcell k hlt 0 _ rfl)
      have c1 := hE.cell (hcell k hlt 1 _ rfl)
      have c2 := hE.cell (hcell k hlt 2 _ rfl)
      rw [Nat.add_zero] at c0
      have lbr := Nat.lt_of_lt_of_le lb hE.size
      clear hcell h3 hE q0 lq
      generalize l[k] = x at *
      cases d0 : (x.pre.toList == n.toList) with
      | true =>
        go_wp2_with fail
        go_ret
        exact ⟨_, rfl, ⟨_, rfl⟩, HE.out.alloc' _⟩
      | false =>
        go_wp2_with fail
        go_roundw
        case rel => exact ⟨k + 1, by omega, by go_num, HE.out.alloc' _⟩
        case measure => simp [intOf]; omega
    · obtain rfl : k = l.length := by omega
      clear hE h3
      go_wp2_with fail
      go_ret
      exact ⟨_, rfl, ⟨_, rfl⟩, HE.out⟩
set_option maxRecDepth 100000 in
set_option maxHeartbeats 1000000 in
theorem fresh_e (w : World) (v : Value) (l : List ClauseI) (h : Sl w 3 v (l.map ClauseI.cells)) (hl : l.length ≤ 5000) : Calls Tryz.prog 102 #[v] w (RetQ (fun u _ => ∃ s, u = .string s) w) := by
  have HB := hid (Blk.new w 30 #[v])
  have HS := hid (h.ext (Ext.alloc w (.cells #[v] 30)))
  obtain ⟨A, c, rfl, _⟩ := sl_get h
  have HE0 := hid (Ext.alloc w (.cells #[.slice A l.length c] 30))
  clear h
  go_enter Tryz.func102, Tryz.ntmps102
  go_wp2_with fail
  generalize w.alloc (.cells #[.slice A l.length c] 30) = w0 at HB HS HE0 ⊢
  generalize w.heap.size = g at HB ⊢
  go_loopw [8] (fun i wr => ∃ k : Nat, k ≤ l.length ∧ i = .int .i64 k ∧ Ext w0 wr) (fun i _ => l.length - (intOf i).toNat)
  case atStart => exact ⟨0, by omega, rfl, Ext.refl _⟩
  case round =>
    obtain ⟨k, hk, rfl, hE⟩ := hrel
    have HE := hid hE
    have hb := HB.out.ext hE
    have q0 := hb.cell (i := 0) (v := .slice A l.length c) rfl
    have lq := hb.lt
    by_cases hlt : k < l.length
    · have HD := fun W => hid (cdigits_c k W (by omega))
      have HH := fun W (hW : Ext wr W) => hid (hasName_e W g _ l (digK k) (hb.ext hW) (HS.out.ext (hE.trans hW)))
      clear hE hb
      generalize digK k = s at HD HH
      go_wp2_with fail
      refine ((HD _).out).mono ?_
      rintro e w1 ⟨rfl, hx1⟩
      have HX1 := hid hx1
      clear hx1
      go_wp2_with fail
      refine ((HH _ HX1.out).out).mono ?_
      rintro e w2 ⟨u, rfl, ⟨b, rfl⟩, hx2⟩
      have HX2 := hid (HX1.out.trans hx2)
      clear hx2
      cases b with
      | true =>
        go_wp2_with fail
        go_roundw
        case rel => exact ⟨k + 1, by omega, by go_num, HE.out.trans HX2.out⟩
        case measure => simp [intOf]; omega
      | false =>
        go_wp2_with fail
        refine ((HD _).out).mono ?_
        rintro e w3 ⟨rfl, hx3⟩
        have HX3 := hid (HX2.out.trans hx3)
        clear hx3
        go_wp2_with fail
        go_ret
        exact ⟨_, rfl, ⟨_, rfl⟩, HE0.out.trans (HE.out.trans HX3.out)⟩
    · obtain rfl : k = l.length := by omega
      have HD := fun W => hid (cdigits_c l.length W (by omega))
      clear hE hb
      generalize digK l.length = s at HD
      go_wp2_with fail
      refine ((HD _).out).mono ?_
      rintro e w3 ⟨rfl, hx3⟩
      have HX3 := hid hx3
      clear hx3
      go_wp2_with fail
      go_ret
      exact ⟨_, rfl, ⟨_, rfl⟩, HE0.out.trans (HE.out.trans HX3.out)⟩
end Go.Proofs.YtjnjamhohnnefaaGreatDoor
namespace Go.Proofs.YtjnjamhohnnefaaGreatDoor
set_option linter.unusedSimpArgs false
set_option linter.unusedVariables false
open Go.RowKit Go.Sort

set_option maxRecDepth 100000 in
set_option maxHeartbeats 2000000 in
theorem missing_c (w : World) (v : Value) (f : List ClauseI) (c : ClauseI) (h : Sl w 3 v (f.map ClauseI.cells)) (hl : f.length ≤ 5000) (hc : c.pre.size ≤ 1000) (hs : LightF f) : Calls Tryz.prog 101 #[v, c.val] w (RetQ (RowAt Rng.cells 2 (missR f c)) w) := by
  have HS := fun W (hW : Ext w W) => hid (fsizes_c W v f c.pre (h.ext hW) hl hc hs)
  have HM := fun W (x y : Value) (hx : Sl W 2 x (([rngOf c]).map Rng.cells)) (hy : Sl W 2 y ((nf (sizes (selR f c.pre))).map Rng.cells)) => hid (((Sz.minus8_f W x y _ _ hx hy (by simp) (by have := form_len (nf_form (selR f c.pre)).1; omega))).mono fun e w' ⟨v', he, hr, hx⟩ => (⟨v', he, hr.1, hx⟩ : RetQ (RowAt Rng.cells 2 (missR f c)) W e w'))
  obtain ⟨A, d, rfl, _⟩ := sl_get h
  generalize missR f c = mr at HM ⊢
  generalize nf (sizes (selR f c.pre)) = sr at HS HM
  unfold ClauseI.val
  clear h hs
  go_enter Tryz.func101, Tryz.ntmps101
  go_wp2_with fail
  have e0 := Ext.alloc w (.cells #[.string c.pre, .int .i64 c.lo, .int .i64 c.hi] 65)
  have hb := Blk.new w 65 #[.string c.pre, .int .i64 c.lo, .int .i64 c.hi]
  generalize w.alloc (.cells #[.string c.pre, .int .i64 c.lo, .int .i64 c.hi] 65) = w0 at e0 hb ⊢
  generalize w.heap.size = g at hb ⊢
  have c0 := hb.cell (i := 0) (v := .string c.pre) rfl
  have c1 := hb.cell (i := 1) (v := .int .i64 c.lo) rfl
  have c2 := hb.cell (i := 2) (v := .int .i64 c.hi) rfl
  have lg := hb.lt
  have HE0 := hid e0
  have HS0 := fun W (hW : Ext w0 W) => HS W (HE0.out.trans hW)
  clear hb e0 HS
  refine wp_region_any_order (by kernel_rfl) (by kernel_rfl) (by kernel_rfl) ?_
  repeat (first
    | (refine AWq.val rfl rfl rfl rfl (fun K hK => ?_); go_big_quiet_op; refine hK _ ?_; clear hK K)
    | (refine AWq.skip rfl rfl rfl ?_; simp only [Act.put, List.setIfInBounds_toArray, List.set_cons_succ, List.set_cons_zero])
    | (refine AWq.opV (NewSl 63 #[.int .i64 c.lo, .int .i64 c.hi] 1 1) (NewSl.steady _ _ _ _) rfl rfl rfl rfl (fun wc hc => ?_) ?_; (· (have hc' := hc.rule; clear hc; go_simp; dsimp only [Gives]; exact ⟨⟨_, rfl, Blk.new _ _ _⟩, Ext.alloc _ _⟩)))
    | (refine AWq.callQ (RowAt Rng.cells 2 sr) (RowAt.steady _ _ _) rfl Tryz.func105 (by kernel_rfl) (by kernel_rfl) rfl rfl rfl (fun wc hc => ?_) ?_; (· (simp only [argsOf, anyAt, ↓reduceIte, Nat.reduceEqDiff, Array.getD_eq_getD_getElem?, List.getElem?_toArray, List.getElem?_cons_succ, List.getElem?_cons_zero, Option.getD_some]; exact (HS0 _ hc).out)))
    | (refine AWq.callQ (RowAt Rng.cells 2 mr) (RowAt.steady _ _ _) rfl Tryz.func104 (by kernel_rfl) (by kernel_rfl) rfl rfl rfl (fun wc hc => ?_) ?_; (· (simp only [argsOf, anyAt, ↓reduceIte, Nat.reduceEqDiff, Array.getD_eq_getD_getElem?, List.getElem?_toArray, List.getElem?_cons_succ, List.getElem?_cons_zero, Option.getD_some]; intro y hy z hz; obtain ⟨g1, rfl, hg⟩ := hy; exact (HM _ _ _ (Sl.of_flat hg ⟨[], rfl⟩ (Sz.rng_coded.sizes _) rfl (Nat.le_refl _) (by simp [maxLen])) hz.1).out)))
    | (refine AWq.opQ (RowAt Rng.cells 2 mr) (RowAt.steady _ _ _) rfl (fun a wc hc hl' => ⟨rfl, ?_⟩) ?_; (· (have e := hl' 12 (of_decide_eq_true (by kernel_rfl)); exact ⟨e, Ext.refl _⟩))))
  refine AWq.done rfl rfl rfl (fun w3 x3 => ?_)
  simp only [closeAny, Act.put, List.setIfInBounds_toArray, List.set_cons_succ, List.set_cons_zero]
  intro v1 hv1 _ _ _ _ _ _
  have HV := hid hv1
  clear hv1
  go_wp2_with fail
  go_ret
  exact ⟨_, rfl, HV.out, HE0.out.trans x3⟩
/-- What Witness answers: some file, and whether there is one. -/
def FileB (b : Bool) (v : Value) (_ : World) : Prop := ∃ s n d, v = .tuple #[.agg #[.string s, .int .i64 n, .bool d], .bool b]
set_option maxRecDepth 100000 in
set_option maxHeartbeats 4000000 in
theorem witness_c (w : World) (v u : Value) (f g : List ClauseI) (hf : Sl w 3 v (f.map ClauseI.cells)) (hg : Sl w 3 u (g.map ClauseI.cells)) (lf : f.length ≤ 5000) (lg : g.length ≤ 5000) (sf : LightF f) (sg : LightF g) : Calls Tryz.prog 76 #[v, u] w (RetQ (FileB (!hasB f g)) w) := by
  have HN := fun W (hW : Ext w W) => hid (fnorm_c W u g (hg.ext hW) lg sg)
  have HMi := fun W (hW : Ext w W) (c : ClauseI) (hc : c ∈ normF g) => hid (missing_c W v f c (hf.ext hW) lf (by have := normF_light sg c hc; omega) sf)
  have HFr := fun W (hW : Ext w W) => hid (fresh_e W v f (hf.ext hW) lf)
  have HYes : Hid ((∀ c ∈ normF g, (missR f c).length = 0) → (!hasB f g) = false) := fun h => by rw [hasB_yes (has_norm.1 h)]; rfl
  have HNo : Hid (∀ c ∈ normF g, ¬ (missR f c).length = 0 → (!hasB f g) = true) := fun c hc h => by rw [hasB_no (fun k => h (has_norm.2 k c hc))]; rfl
  obtain ⟨A, c, rfl, _⟩ := sl_get hf
  obtain ⟨B, d, rfl, _⟩ := sl_get hg
  generalize (!hasB f g) = r at HYes HNo ⊢
  generalize normF g = N at *
  clear hf hg sf sg
  go_enter Tryz.func76, Tryz.ntmps76
  go_wp2_with fail
  have HE0 := hid (Ext.alloc w (.cells #[.string ⟨#[]⟩, .int .i64 0, .bool false] 32))
  have HB0 := hid (Blk.new w 32 #[.string ⟨#[]⟩, .int .i64 0, .bool false])
  generalize w.alloc (.cells #[.string ⟨#[]⟩, .int .i64 0, .bool false] 32) = w0 at HE0 HB0 ⊢
  obtain ⟨q, hq⟩ : ∃ q, q = w.heap.size := ⟨_, rfl⟩
  rw [← hq] at HB0 ⊢
  have HQ : Hid (w.heap.size ≤ q) := Nat.le_of_eq hq.symm
  clear hq
  go_step3
  go_wp2_with fail
  go_step3
  go_wp2_with fail
  refine ((HN _ HE0.out).out).mono ?_
  rintro e w2 ⟨v2, rfl, hv2, x2⟩
  have HE2 := hid (HE0.out.trans x2)
  have HB2 := hid (HB0.out.ext x2)
  obtain ⟨A2, c2, rfl, p1, p2, p3⟩ := sl_get hv2.1
  unfold maxLen at p2
  clear x2 hv2 HE0 HB0 HN
  go_wp2_with fail
  go_loopw [13] (fun i wr => ∃ k : Nat, k ≤ N.length ∧ i = .int .i64 k ∧ Ext w2 wr ∧ Hid (∀ j (hj : j < N.length), j < k → (missR f N[j]).length = 0)) (fun i _ => N.length - (intOf i).toNat)
  case atStart => exact ⟨0, by omega, rfl, Ext.refl _, fun j _ hj => by omega⟩
  case round =>
    obtain ⟨k, hk, rfl, hE, hno⟩ := hrel
    have HE := hid hE
    have hbq := HB2.out.ext hE
    by_cases hlt : k < N.length
    · obtain ⟨b, o, rfl, lb, hcell⟩ := p3 (by omega)
      have c0 := hE.cell (hcell k hlt 0 _ rfl)
      have c1 := hE.cell (hcell k hlt 1 _ rfl)
      have c2_ := hE.cell (hcell k hlt 2 _ rfl)
      rw [Nat.add_zero] at c0
      have lbr := Nat.lt_of_lt_of_le lb hE.size
      have hmem : N[k] ∈ N := List.getElem_mem hlt
      have HM := fun W (hW : Ext wr W) => HMi W (HE2.out.trans (hE.trans hW)) N[k] hmem
      have HN1 := hid (HNo.out N[k] hmem)
      have HNx : Hid ((missR f N[k]).length = 0 → ∀ j (hj : j < N.length), j < k + 1 → (missR f N[j]).length = 0) := fun e j hj hjk => by
        by_cases hjk' : j = k
        · subst hjk'; exact e
        · exact hno.out j hj (by omega)
      have HFr1 := fun W (hW : Ext wr W) => HFr W (HE2.out.trans (hE.trans hW))
      have HBq := hid hbq
      have hle := missR_len f N[k]
      clear hcell p3 hE hno hbq HMi HNo HYes HFr hmem
      generalize missR f N[k] = mr at HM HN1 HNx hle
      generalize N[k] = x at c0 c1 c2_ HM
      unfold ClauseI.val at HM
      have hbx := Blk.new wr 65 #[.string x.pre, .int .i64 x.lo, .int .i64 x.hi]
      have ex := Ext.alloc wr (.cells #[.string x.pre, .int .i64 x.lo, .int .i64 x.hi] 65)
      have HBx := hid hbx
      have HEx := hid ex
      clear hbx ex
      cases h0 : ((mr.length : Int) == 0) with
      | true =>
        have hz : mr.length = 0 := by simp at h0; exact congrArg List.length h0
        have HNx := hid (HNx.out hz)
        clear HN1 hz
        go_wp2_with (go_at_call 101; refine ((HM _ HEx.out).out).mono ?_; rintro e w4 ⟨v4, rfl, hv4, x4⟩; have HX4 := hid (HEx.out.trans x4); obtain ⟨A4, c4, rfl, _⟩ := sl_get hv4.1; clear hv4 x4)
        exact ⟨⟨k + 1, by omega, by go_num, HE.out.trans HX4.out, HNx.out⟩, by simp [intOf]; omega⟩
      | false =>
        have hz : ¬ mr.length = 0 := fun h => by rw [h] at h0; cases h0
        have HN1 := hid (HN1.out hz)
        have hpos : 0 < mr.length := by omega
        clear HNx
        go_wp2_with (go_at_call 101; refine ((HM _ HEx.out).out).mono ?_; rintro e w4 ⟨v4, rfl, hv4, x4⟩; have HX4 := hid (HEx.out.trans x4); have HBx4 := hid (HBx.out.ext x4); obtain ⟨A4, c4, rfl, r1, r2, r3⟩ := sl_get hv4.1; clear hv4 x4)
        obtain ⟨b4, o4, rfl, lb4, hc4⟩ := r3 hpos
        have d0 := hc4 0 hpos 0 _ rfl
        simp only [Nat.zero_mul, Nat.add_zero] at d0
        generalize mr[0] = y at d0
        unfold maxLen at r2
        have x0 := HBx4.out.cell (i := 0) (v := .string x.pre) rfl
        have xl := HBx4.out.lt
        clear c0 c1 c2_ lbr hc4 r3 hz
        have e5 := Ext.drew' (Ext.alloc w4 (.cells #[.string x.pre, .int .i64 y.lo, .bool false] 32))
        have h9 := (Blk.new w4 32 #[.string x.pre, .int .i64 y.lo, .bool false]).drew
        have hq5 := HBq.out.ext (HX4.out.trans e5)
        have hne : ¬ w4.heap.size = q := by have := (HBq.out.ext HX4.out).lt; omega
        have HQ9 : Hid (w.heap.size ≤ w4.heap.size) := (HE2.out.trans (HE.out.trans HX4.out)).size
        have HE5 := hid (HE2.out.trans (HE.out.trans (HX4.out.trans e5)))
        have HFr5 := HFr1 _ (HX4.out.trans e5)
        cases he : x.pre.toList.isEmpty with
        | false =>
          go_region
          generalize (w4.alloc (.cells #[.string x.pre, .int .i64 y.lo, .bool false] 32)).drew = W5 at e5 h9 hq5 HE5 HFr5 ⊢
          generalize w4.heap.size = g9 at h9 hne HQ9 ⊢
          have y0 := h9.cell (i := 0) (v := .string x.pre) rfl
          have y1 := h9.cell (i := 1) (v := .int .i64 y.lo) rfl
          have y2 := h9.cell (i := 2) (v := .bool false) rfl
          have z0 := hq5.cell (i := 0) (v := .string ⟨#[]⟩) rfl
          have z1 := hq5.cell (i := 1) (v := .int .i64 0) rfl
          have z2 := hq5.cell (i := 2) (v := .bool false) rfl
          have f0 := hq5.frozen 0
          have f1 := hq5.frozen 1
          have f2 := hq5.frozen 2
          have l9 := h9.lt
          have lq := hq5.lt
          have HQ5 := hid hq5
          clear e5 h9 hq5 x0 xl d0 lb4 HFr5 HFr1
          go_wp2_with fail
          rw [Exit.noGoto_ret]
          have HF : Hid (Blk (((W5.setCell ⟨q, 0, none⟩ (.string x.pre)).setCell ⟨q, 1, none⟩ (.int .i64 y.lo)).setCell ⟨q, 2, none⟩ (.bool false)) q 32 #[.string x.pre, .int .i64 y.lo, .bool false]) := ((HQ5.out.set 0 (.string x.pre)).set 1 (.int .i64 y.lo)).set 2 (.bool false)
          refine bodyPost_ret (results_cell_row_tmp rfl _ _ q 32 _ (0, 0) _ rfl HF.out Tryz.underlying32 rfl (show (Tryz.prog.info? 32).map (·.size) = some 3 by kernel_rfl)) rfl ⟨_, rfl, ?_, ?_⟩
          · rw [HN1.out]; exact ⟨_, _, _, rfl⟩
          · exact (((HE5.out).setCell' HQ.out _).setCell' HQ.out _).setCell' HQ.out _
        | true =>
          go_region
          generalize (w4.alloc (.cells #[.string x.pre, .int .i64 y.lo, .bool false] 32)).drew = W5 at e5 h9 hq5 HE5 HFr5 ⊢
          generalize w4.heap.size = g9 at h9 hne HQ9 ⊢
          have y0 := h9.cell (i := 0) (v := .string x.pre) rfl
          have l9 := h9.lt
          have H95 := hid h9
          have HQ5 := hid hq5
          clear e5 h9 hq5 x0 xl d0 lb4 HFr1
          go_wp2_with fail
          refine ((HFr5).out).mono ?_
          rintro e w6 ⟨u6, rfl, ⟨s6, rfl⟩, x6⟩
          have h9 := H95.out.ext x6
          have hq6 := HQ5.out.ext x6
          have HE6 := hid (HE5.out.trans x6)
          have y0' := h9.cell (i := 0) (v := .string x.pre) rfl
          have y1 := h9.cell (i := 1) (v := .int .i64 y.lo) rfl
          have y2 := h9.cell (i := 2) (v := .bool false) rfl
          have z0 := hq6.cell (i := 0) (v := .string ⟨#[]⟩) rfl
          have z1 := hq6.cell (i := 1) (v := .int .i64 0) rfl
          have z2 := hq6.cell (i := 2) (v := .bool false) rfl
          have f0 := hq6.frozen 0
          have f1 := hq6.frozen 1
          have f2 := hq6.frozen 2
          have f9 := h9.frozen 0
          have l9' := h9.lt
          have lq := hq6.lt
          have HQ6 := hid (hq6.far (p := ⟨g9, 0, none⟩) (fun e => hne e.symm) (.string s6))
          clear x6 h9 hq6 y0 l9
          go_wp2_with fail
          rw [Exit.noGoto_ret]
          have HF : Hid (Blk ((((w6.setCell ⟨g9, 0, none⟩ (.string s6)).setCell ⟨q, 0, none⟩ (.string s6)).setCell ⟨q, 1, none⟩ (.int .i64 y.lo)).setCell ⟨q, 2, none⟩ (.bool false)) q 32 #[.string s6, .int .i64 y.lo, .bool false]) := ((HQ6.out.set 0 (.string s6)).set 1 (.int .i64 y.lo)).set 2 (.bool false)
          refine bodyPost_ret (results_cell_row_tmp rfl _ _ q 32 _ (0, 0) _ rfl HF.out Tryz.underlying32 rfl (show (Tryz.prog.info? 32).map (·.size) = some 3 by kernel_rfl)) rfl ⟨_, rfl, ?_, ?_⟩
          · rw [HN1.out]; exact ⟨_, _, _, rfl⟩
          · exact (((HE6.out.setCell' HQ9.out _).setCell' HQ.out _).setCell' HQ.out _).setCell' HQ.out _
    · obtain rfl : k = N.length := by omega
      have hr : Hid (r = false) := HYes.out fun c hc => by
        obtain ⟨j, hj, rfl⟩ := List.getElem_of_mem hc
        exact hno.out j hj hj
      have HBz := hid hbq
      have z0 := hbq.cell (i := 0) rfl
      have z1 := hbq.cell (i := 1) rfl
      have z2 := hbq.cell (i := 2) rfl
      have f0 := hbq.frozen 0
      have f1 := hbq.frozen 1
      have f2 := hbq.frozen 2
      have ql := hbq.lt
      clear hE p3 hno HYes HNo HMi HFr hbq
      go_wp2_with fail
      rw [Exit.noGoto_ret]
      have HF : Hid (Blk (((wr.setCell ⟨q, 0, none⟩ (.string ⟨#[]⟩)).setCell ⟨q, 1, none⟩ (.int .i64 0)).setCell ⟨q, 2, none⟩ (.bool false)) q 32 #[.string ⟨#[]⟩, .int .i64 0, .bool false]) := ((HBz.out.set 0 (.string ⟨#[]⟩)).set 1 (.int .i64 0)).set 2 (.bool false)
      refine bodyPost_ret (results_cell_row_tmp rfl _ _ q 32 _ (0, 0) _ rfl HF.out Tryz.underlying32 rfl (show (Tryz.prog.info? 32).map (·.size) = some 3 by kernel_rfl)) rfl ⟨_, rfl, ?_, ?_⟩
      · rw [hr.out]; exact ⟨_, _, _, rfl⟩
      · exact (((HE2.out.trans HE.out).setCell' HQ.out _).setCell' HQ.out _).setCell' HQ.out _
end Go.Proofs.YtjnjamhohnnefaaGreatDoor
namespace Go.Proofs.YtjnjamhohnnefaaGreatDoor
set_option linter.unusedSimpArgs false
set_option linter.unusedVariables false
open Go.RowKit Go.Sort

set_option maxRecDepth 100000 in
set_option maxHeartbeats 2000000 in
theorem subsumes_c (w : World) (v u : Value) (f g : List ClauseI) (hf : Sl w 3 v (f.map ClauseI.cells)) (hg : Sl w 3 u (g.map ClauseI.cells)) (lf : f.length ≤ 5000) (lg : g.length ≤ 5000) (sf : LightF f) (sg : LightF g) : Calls Tryz.prog 63 #[v, u] w (Ret (.bool (hasB f g)) w) := by
  have HW := hid (witness_c w v u f g hf hg lf lg sf sg)
  obtain ⟨A, c, rfl, _⟩ := sl_get hf
  obtain ⟨B, d, rfl, _⟩ := sl_get hg
  generalize hasB f g = r at HW ⊢
  clear hf hg sf sg
  go_enter Tryz.func63, Tryz.ntmps63
  go_wp2_with fail
  refine (HW.out).mono ?_
  rintro e w1 ⟨v1, rfl, ⟨s, n, d1, rfl⟩, x1⟩
  have HX := hid x1
  clear x1 HW
  go_wp2_with fail
  go_ret
  exact ⟨by cases r <;> rfl, HX.out.alloc' _⟩
set_option maxRecDepth 100000 in
set_option maxHeartbeats 2000000 in
theorem rmissing_c (w : World) (v u : Value) (f g : List ClauseI) (p : ByteArray) (hf : Sl w 3 v (f.map ClauseI.cells)) (hg : Sl w 3 u (g.map ClauseI.cells)) (lf : f.length ≤ 5000) (lg : g.length ≤ 5000) (hp : p.size ≤ 1000) (sf : LightF f) (sg : LightF g) : Calls Tryz.prog 83 #[v, u, .string p] w (RetQ (RowAt Rng.cells 2 (difR g f p)) w) := by
  have HG := fun W (hW : Ext w W) => hid (rsizes_c W u g p (hg.ext hW) lg hp sg)
  have HF := fun W (hW : Ext w W) => hid (rsizes_c W v f p (hf.ext hW) lf hp sf)
  have HT := fun W (x y : Value) (hx : Sl W 2 x ((selR g p).map Rng.cells)) (hy : Sl W 2 y ((selR f p).map Rng.cells)) => hid ((Sz.rtwo2_f W x y _ _ hx hy).mono fun e w' ⟨v', he, hr, hx⟩ => (⟨v', he, hr.1, hx⟩ : RetQ (RowAt Rng.cells 2 (difR g f p)) W e w'))
  obtain ⟨A, c, rfl, _⟩ := sl_get hf
  obtain ⟨B, d, rfl, _⟩ := sl_get hg
  generalize difR g f p = r at HT ⊢
  generalize selR g p = sg' at HG HT
  generalize selR f p = sf' at HF HT
  clear hf hg sf sg
  go_enter Tryz.func83, Tryz.ntmps83
  go_wp2_with fail
  refine ((HG _ (Ext.refl _)).out).mono ?_
  rintro e w1 ⟨v1, rfl, hv1, x1⟩
  have X1 := hid x1
  have R1 := hid hv1.1
  clear x1 hv1
  go_wp2_with fail
  refine ((HF _ X1.out).out).mono ?_
  rintro e w2 ⟨v2, rfl, hv2, x2⟩
  have X2 := hid (X1.out.trans x2)
  have R1' := hid (R1.out.ext x2)
  have R2 := hid hv2.1
  clear x2 hv2 R1
  go_wp2_with fail
  refine ((HT _ _ _ R1'.out R2.out).out).mono ?_
  rintro e w3 ⟨v3, rfl, hv3, x3⟩
  have X3 := hid (X2.out.trans x3)
  have R3 := hid hv3
  clear x3 hv3
  go_wp2_with fail
  go_ret
  exact ⟨_, rfl, R3.out, X3.out⟩
set_option maxRecDepth 100000 in
set_option maxHeartbeats 4000000 in
theorem rsubsumes_c (w : World) (v u : Value) (f g : List ClauseI) (hf : Sl w 3 v (f.map ClauseI.cells)) (hg : Sl w 3 u (g.map ClauseI.cells)) (lf : f.length ≤ 5000) (lg : g.length ≤ 5000) (sf : LightF f) (sg : LightF g) : Calls Tryz.prog 67 #[v, u] w (Ret (.bool (hasB f g)) w) := by
  have HP := hid (rprefixes_c w u g hg lg)
  have HM := fun W (hW : Ext w W) (p : ByteArray) (hp : p.size ≤ 1000) => hid (rmissing_c W v u f g p (hf.ext hW) (hg.ext hW) lf lg hp sf sg)
  have HYes : Hid ((∀ p ∈ preS g, (difR g f p).length = 0) → hasB f g = true) := fun h => hasB_yes (has_pre.1 h)
  have HNo : Hid (∀ p ∈ preS g, ¬ (difR g f p).length = 0 → hasB f g = false) := fun p hp h => hasB_no (fun k => h (has_pre.2 k p hp))
  have HPs : Hid (∀ p ∈ preS g, p.size ≤ 1000) := fun p hp => by
    obtain ⟨c, hc, rfl⟩ := (mem_preS g p).1 hp
    have := sg c hc
    omega
  obtain ⟨A, c, rfl, _⟩ := sl_get hf
  obtain ⟨B, d, rfl, _⟩ := sl_get hg
  generalize hasB f g = r at HYes HNo ⊢
  generalize preS g = ps at *
  clear hf hg sf sg
  go_enter Tryz.func67, Tryz.ntmps67
  go_wp2_with fail
  refine (HP.out).mono ?_
  rintro e w1 ⟨v1, rfl, hv1, x1⟩
  have X1 := hid x1
  obtain ⟨A2, c2, rfl, p1, p2, p3⟩ := sl_get hv1.1
  unfold maxLen at p2
  clear x1 hv1 HP
  go_wp2_with fail
  go_loopw [6] (fun i wr => ∃ k : Nat, k ≤ ps.length ∧ i = .int .i64 k ∧ Ext w1 wr ∧ Hid (∀ j (hj : j < ps.length), j < k → (difR g f ps[j]).length = 0)) (fun i _ => ps.length - (intOf i).toNat)
  case atStart => exact ⟨0, by omega, rfl, Ext.refl _, fun j _ hj => by omega⟩
  case round =>
    obtain ⟨k, hk, rfl, hE, hno⟩ := hrel
    have HE := hid hE
    by_cases hlt : k < ps.length
    · obtain ⟨b, o, rfl, lb, hcell⟩ := p3 (by omega)
      have c0 := hE.cell (hcell k hlt 0 (.string ps[k]) rfl)
      simp only [Nat.mul_one, Nat.add_zero] at c0
      have lbr := Nat.lt_of_lt_of_le lb hE.size
      have hmem : ps[k] ∈ ps := List.getElem_mem hlt
      have HM1 := fun W (hW : Ext wr W) => HM W (X1.out.trans (hE.trans hW)) ps[k] (HPs.out _ hmem)
      have HN1 := hid (HNo.out ps[k] hmem)
      have HNx : Hid ((difR g f ps[k]).length = 0 → ∀ j (hj : j < ps.length), j < k + 1 → (difR g f ps[j]).length = 0) := fun e j hj hjk => by
        by_cases hjk' : j = k
        · subst hjk'; exact e
        · exact hno.out j hj (by omega)
      clear hcell p3 hE hno HM HNo HYes HPs hmem
      generalize difR g f ps[k] = mr at HM1 HN1 HNx
      generalize ps[k] = p at c0 HM1
      go_wp2_with fail
      refine ((HM1 _ (Ext.refl _)).out).mono ?_
      rintro e w2 ⟨v2, rfl, hv2, x2⟩
      have X2 := hid x2
      obtain ⟨A4, c4, rfl, _⟩ := sl_get hv2.1
      clear x2 hv2
      by_cases hz : mr.length = 0
      · have d0 : decide (0 < mr.length) = false := decide_eq_false (by omega)
        have d0' : decide ((0 : Int) < mr.length) = false := decide_eq_false (by omega)
        have HNx := hid (HNx.out hz)
        clear HN1 hz
        go_wp2_with fail
        go_roundw
        case rel => exact ⟨k + 1, by omega, by go_num, HE.out.trans X2.out, HNx.out⟩
        case measure => simp [intOf]; omega
      · have d0 : decide (0 < mr.length) = true := decide_eq_true (by omega)
        have d0' : decide ((0 : Int) < mr.length) = true := decide_eq_true (by omega)
        have HN1 := hid (HN1.out hz)
        clear HNx hz
        go_wp2_with fail
        go_ret
        exact ⟨by rw [HN1.out]; rfl, X1.out.trans (HE.out.trans X2.out)⟩
    · obtain rfl : k = ps.length := by omega
      have hr : Hid (r = true) := HYes.out fun p hp => by
        obtain ⟨j, hj, rfl⟩ := List.getElem_of_mem hp
        exact hno.out j hj hj
      clear hE p3 hno HYes HNo HM HPs
      go_wp2_with fail
      go_ret
      exact ⟨by rw [hr.out]; rfl, X1.out.trans HE.out⟩
/-- May a filter be? -/
def okF (f : List ClauseI) : Bool := f.all rightC && decide (f.length ≤ 8)
theorem firstK_zero : ∀ f : List ClauseI, firstK f = 0 ↔ f.all rightC = true
  | [] => by simp [firstK]
  | c :: t => by
    rw [firstK, List.all_cons, Bool.and_eq_true, ← mayK_zero, ← firstK_zero t]
    by_cases h : mayK c = 0
    · rw [if_pos h]; simp [h]
    · rw [if_neg h]; simp [h]
theorem checkF_ok (f : List ClauseI) : checkF f = 0 ↔ okF f = true := by
  unfold checkF okF
  rw [Bool.and_eq_true, decide_eq_true_eq, ← firstK_zero]
  by_cases h : 8 < f.length
  · rw [if_pos h]; constructor
    · intro e; exact absurd e (by decide)
    · rintro ⟨_, k⟩; omega
  · rw [if_neg h]; exact ⟨fun e => ⟨e, by omega⟩, fun e => e.1⟩
set_option maxRecDepth 100000 in
set_option maxHeartbeats 2000000 in
theorem rfilter_c (w : World) (v : Value) (f : List ClauseI) (h : Sl w 3 v (f.map ClauseI.cells)) (hs : LightF f) : Calls Tryz.prog 65 #[v] w (Ret (.bool (okF f)) w) := by
  obtain ⟨A, c, rfl, h1, h2, h3⟩ := sl_get h
  unfold maxLen at h2
  have HR := fun W (c : ClauseI) (hc : c ∈ f) => hid (rrightC_c W c (by have := hs c hc; omega))
  have HNo : Hid (∀ k (h : k < f.length), rightC f[k] = false → okF f = false) := fun k h e => by
    unfold okF
    rw [List.all_eq_false.2 ⟨_, List.getElem_mem h, by simp [e]⟩]; rfl
  have HYes : Hid ((∀ k (h : k < f.length), rightC f[k] = true) → okF f = decide (f.length ≤ 8)) := fun h => by
    unfold okF
    rw [List.all_eq_true.2 (fun c hc => by
      obtain ⟨j, hj, rfl⟩ := List.getElem_of_mem hc
      exact h j hj)]
    rfl
  generalize okF f = r at HNo HYes ⊢
  clear h hs
  go_enter Tryz.func65, Tryz.ntmps65
  go_wp2_with fail
  go_loopw [3] (fun i wr => ∃ k : Nat, k ≤ f.length ∧ i = .int .i64 k ∧ Ext w wr ∧ Hid (∀ j (hj : j < f.length), j < k → rightC f[j] = true)) (fun i _ => f.length - (intOf i).toNat)
  case atStart => exact ⟨0, by omega, rfl, Ext.refl _, fun j _ hj => by omega⟩
  case round =>
    obtain ⟨k, hk, rfl, hE, hno⟩ := hrel
    have HE := hid hE
    by_cases hlt : k < f.length
    · obtain ⟨b, o, rfl, lb, hcell⟩ := h3 (by omega)
      have c0 := hE.cell (hcell k hlt 0 _ rfl)
      have c1 := hE.cell (hcell k hlt 1 _ rfl)
      have c2 := hE.cell (hcell k hlt 2 _ rfl)
      rw [Nat.add_zero] at c0
      have lbr := Nat.lt_of_lt_of_le lb hE.size
      have HR1 := fun W => HR W f[k] (List.getElem_mem hlt)
      have HN1 := hid (HNo.out k hlt)
      have HNx : Hid (rightC f[k] = true → ∀ j (hj : j < f.length), j < k + 1 → rightC f[j] = true) := fun e j hj hjk => by
        by_cases hjk' : j = k
        · subst hjk'; exact e
        · exact hno.out j hj (by omega)
      clear hcell h3 hE hno HR HNo HYes
      generalize f[k] = x at c0 c1 c2 HR1 HN1 HNx
      unfold ClauseI.val at HR1
      cases hr : rightC x with
      | true =>
        have HNx := hid (HNx.out hr)
        rw [hr] at HR1
        clear HN1 hr
        go_wp2_with (go_at_call 79; refine ((HR1 _).out).mono ?_; rintro e w2 ⟨rfl, hx⟩; have X2 := hid hx; clear hx)
        go_roundw
        case rel => exact ⟨k + 1, by omega, by go_num, HE.out.trans X2.out, HNx.out⟩
        case measure => simp [intOf]; omega
      | false =>
        have HN1 := hid (HN1.out hr)
        rw [hr] at HR1
        clear HNx hr
        go_wp2_with (go_at_call 79; refine ((HR1 _).out).mono ?_; rintro e w2 ⟨rfl, hx⟩; have X2 := hid hx; clear hx)
        go_ret
        exact ⟨by rw [HN1.out]; rfl, HE.out.trans X2.out⟩
    · obtain rfl : k = f.length := by omega
      have hr := hid (HYes.out fun j hj => hno.out j hj hj)
      clear hE h3 hno HYes HNo HR
      cases d8 : decide (f.length ≤ 8) with
      | true =>
        have hr : Hid (r = true) := by rw [hr.out]; exact d8
        have d8' : decide ((f.length : Int) ≤ 8) = true := by simp at d8 ⊢; omega
        clear d8
        go_wp2_with fail
        go_ret
        exact ⟨by rw [hr.out]; rfl, HE.out⟩
      | false =>
        have hr : Hid (r = false) := by rw [hr.out]; exact d8
        have d8' : decide ((f.length : Int) ≤ 8) = false := by simp at d8 ⊢; omega
        clear d8
        go_wp2_with fail
        go_ret
        exact ⟨by rw [hr.out]; rfl, HE.out⟩
end Go.Proofs.YtjnjamhohnnefaaGreatDoor
namespace Go.Proofs.YtjnjamhohnnefaaGreatDoor
set_option linter.unusedSimpArgs false
set_option linter.unusedVariables false
open Go.RowKit

/-- Who is above a replica (0: none). -/
def upAt (up : List Int) (r : Int) : Int := up.getD (r - 1).toNat 0
/-- How many steps up it is to one that has none above it. -/
def climb (up : List Int) : Nat → Int → Option Nat
  | 0, _ => none
  | f + 1, r => if 1 ≤ r ∧ r ≤ up.length then (if upAt up r = 0 then some 0 else (climb up f (upAt up r)).map (· + 1)) else none
theorem climb_out {up : List Int} {f : Nat} {r : Int} (h : ¬ (1 ≤ r ∧ r ≤ up.length)) : climb up f r = none := by
  cases f with
  | zero => rfl
  | succ f => rw [climb, if_neg h]
theorem climb_root {up : List Int} {f : Nat} {r : Int} (h : 1 ≤ r ∧ r ≤ up.length) (h0 : upAt up r = 0) : climb up (f + 1) r = some 0 := by
  rw [climb, if_pos h, if_pos h0]
theorem climb_step {up : List Int} {f : Nat} {r : Int} (h : 1 ≤ r ∧ r ≤ up.length) (h0 : upAt up r ≠ 0) : climb up (f + 1) r = (climb up f (upAt up r)).map (· + 1) := by
  rw [climb, if_pos h, if_neg h0]
theorem upAt_get {up : List Int} {r : Int} (h : 1 ≤ r ∧ r ≤ up.length) : ∃ k : Nat, k < up.length ∧ r - 1 = (k : Int) ∧ ∀ hk : k < up.length, upAt up r = up[k] := by
  refine ⟨(r - 1).toNat, by omega, by omega, fun hk => ?_⟩
  unfold upAt
  rw [List.getD_eq_getElem?_getD, List.getElem?_eq_getElem hk]
  rfl
theorem map_add (o : Option Nat) (a b : Nat) : (o.map (· + a)).map (· + b) = o.map (· + (a + b)) := by
  cases o <;> simp [Nat.add_assoc]
end Go.Proofs.YtjnjamhohnnefaaGreatDoor
