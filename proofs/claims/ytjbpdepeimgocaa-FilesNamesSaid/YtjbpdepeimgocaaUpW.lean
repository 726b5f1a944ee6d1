/-
  update.Wins, update.Best.
-/
import Derived.Test.YtjbpdepeimgocaaUpB
import Derived.Test.YtjbpdepeimgocaaRes
namespace Go.Proofs.Ytjbpdepeimgocaa
set_option linter.unusedSimpArgs false
set_option linter.unusedVariables false
open Go.RowKit

theorem eq3_st (a b : Stamp) : eq3 a.v.by_ a.v.n a.time b.v.by_ b.v.n b.time = decide (a = b) := by
  obtain ⟨⟨a1, a2⟩, a3⟩ := a
  obtain ⟨⟨b1, b2⟩, b3⟩ := b
  simp only [eq3]
  by_cases h1 : a1 = b1 <;> by_cases h2 : a2 = b2 <;> by_cases h3 : a3 = b3 <;> simp [h1, h2, h3]
theorem wins_eq (a b : Stamp) : older b a = if a = b then false else if b.time < a.time then true else if a.time = b.time then b.v.lt a.v else false := by
  by_cases h : a = b
  · rw [if_pos h, h, older_irrefl]
  · rw [if_neg h, older_eq]
    by_cases h1 : b.time < a.time
    · rw [if_pos h1, if_neg (by omega)]; simp [h1]
    · rw [if_neg h1]
      by_cases h2 : a.time = b.time
      · rw [if_pos h2, if_pos h2.symm]
      · rw [if_neg h2, if_neg (fun e => h2 e.symm)]; simp; omega
set_option maxRecDepth 100000 in
set_option maxHeartbeats 1000000 in
theorem wins_c (a b : UpdI) (w : World) : Calls Try.prog 15 #[a.val, b.val] w (Ret (.bool (older b.st a.st)) w) := by
  have HB := fun W => hid (before_c b.st.v a.st.v W)
  have h3 := eq3_st a.st b.st
  rw [wins_eq]
  unfold UpdI.val
  unfold Ver.val at HB
  generalize b.st.v.lt a.st.v = lt at HB ⊢
  by_cases he : a.st = b.st
  · rw [if_pos he]
    rw [decide_eq_true he] at h3
    clear he HB
    generalize a.st = s at h3 ⊢
    generalize b.st = t at h3 ⊢
    go_enter Try.func15, Try.ntmps15
    go_wp2_with fail
    go_ret
    exact ⟨rfl, (Ext.alloc _ _).alloc' _⟩
  · rw [if_neg he]
    rw [decide_eq_false he] at h3
    clear he
    generalize a.st = s at h3 HB ⊢
    generalize b.st = t at h3 HB ⊢
    by_cases h1 : t.time < s.time
    · rw [if_pos h1]
      have d1 : decide (t.time < s.time) = true := decide_eq_true h1
      clear h1 HB
      go_enter Try.func15, Try.ntmps15
      go_wp2_with fail
      go_ret
      exact ⟨rfl, (Ext.alloc _ _).alloc' _⟩
    · rw [if_neg h1]
      have d1 : decide (t.time < s.time) = false := decide_eq_false h1
      clear h1
      by_cases h2 : s.time = t.time
      · rw [if_pos h2]
        have d2 : (s.time == t.time) = true := by simp [h2]
        clear h2
        go_enter Try.func15, Try.ntmps15
        go_wp2_with (go_at_call 26; refine (HB _).out.mono ?_; rintro e w' ⟨rfl, hx⟩; have HX := hid hx; clear hx)
        go_ret
        exact ⟨rfl, ((Ext.alloc _ _).alloc' _).trans HX.out⟩
      · rw [if_neg h2]
        have d2 : (s.time == t.time) = false := by simp [h2]
        clear h2 HB
        go_enter Try.func15, Try.ntmps15
        go_wp2_with fail
        go_ret
        exact ⟨rfl, (Ext.alloc _ _).alloc' _⟩

def UpdI.arr (u : UpdI) : Array Value := #[.int .i64 u.item.by_, .int .i64 u.item.n, .int .i64 u.st.v.by_, .int .i64 u.st.v.n, .int .i64 u.st.time, .string u.p, .string u.d, .bool u.dead]
/-- An update laid at q. -/
def put8 (W : World) (q : Nat) (u : UpdI) : World := (((((((W.setCell ⟨q, 0, none⟩ (.int .i64 u.item.by_)).setCell ⟨q, 1, none⟩ (.int .i64 u.item.n)).setCell ⟨q, 2, none⟩ (.int .i64 u.st.v.by_)).setCell ⟨q, 3, none⟩ (.int .i64 u.st.v.n)).setCell ⟨q, 4, none⟩ (.int .i64 u.st.time)).setCell ⟨q, 5, none⟩ (.string u.p)).setCell ⟨q, 6, none⟩ (.string u.d)).setCell ⟨q, 7, none⟩ (.bool u.dead)
theorem put8_blk {W : World} {q : Nat} {o : UpdI} (h : Blk W q 30 o.arr) (u : UpdI) : Blk (put8 W q u) q 30 u.arr := by
  have h8 := (((((((h.set 0 (.int .i64 u.item.by_)).set 1 (.int .i64 u.item.n)).set 2 (.int .i64 u.st.v.by_)).set 3 (.int .i64 u.st.v.n)).set 4 (.int .i64 u.st.time)).set 5 (.string u.p)).set 6 (.string u.d)).set 7 (.bool u.dead)
  unfold UpdI.arr at h8
  simp only [List.setIfInBounds_toArray, List.set_cons_zero, List.set_cons_succ] at h8
  exact h8
theorem put8_far {W : World} {q g : Nat} {t : TypeId} {cs : Array Value} (h : Blk W g t cs) (hne : g ≠ q) (u : UpdI) : Blk (put8 W q u) g t cs :=
  (((((((h.far hne _).far hne _).far hne _).far hne _).far hne _).far hne _).far hne _).far hne _
theorem put8_keep {S : Nat → Prop} {w W : World} {q : Nat} (h : Keep S w W) (hq : S q ∨ w.heap.size ≤ q) (u : UpdI) : Keep S w (put8 W q u) :=
  (((((((h.setCell (p := ⟨q, 0, none⟩) hq _).setCell (p := ⟨q, 1, none⟩) hq _).setCell (p := ⟨q, 2, none⟩) hq _).setCell (p := ⟨q, 3, none⟩) hq _).setCell (p := ⟨q, 4, none⟩) hq _).setCell (p := ⟨q, 5, none⟩) hq _).setCell (p := ⟨q, 6, none⟩) hq _).setCell (p := ⟨q, 7, none⟩) hq _
/-- What take leaves. -/
def Took (w : World) (qf qo : Nat) (acc : Option UpdI) : Ending → World → Prop := fun e w' => e = .returned (.tuple #[]) ∧ Keep (fun q => q = qf ∨ q = qo) w w' ∧ Blk w' qf 4 #[.bool acc.isSome] ∧ Blk w' qo 30 (acc.getD upd0).arr
theorem took_of {w W : World} {qf qo : Nat} {o : UpdI} {b : Bool} (hE : Ext w W) (hF : Blk W qf 4 #[.bool b]) (hO : Blk W qo 30 o.arr) (hne : qf ≠ qo) (u : UpdI) : Took w qf qo (some u) (.returned (.tuple #[])) ((put8 W qo u).setCell ⟨qf, 0, none⟩ (.bool true)) := by
  refine ⟨rfl, ?_, ?_, ?_⟩
  · exact (put8_keep (Keep.of_ext hE) (.inl (.inr rfl)) u).setCell (p := ⟨qf, 0, none⟩) (.inl (.inl rfl)) _
  · have := (put8_far hF hne u).set 0 (.bool true)
    exact this
  · exact (put8_blk hO u).far (p := ⟨qf, 0, none⟩) (fun e => hne e.symm) _
set_option maxRecDepth 100000 in
set_option maxHeartbeats 4000000 in
theorem best1_c (w : World) (u o : UpdI) (it : Ver) (qi qf qo : Nat) (acc : Option UpdI) (hi : Blk w qi 26 #[.int .i64 it.by_, .int .i64 it.n]) (hf : Blk w qf 4 #[.bool acc.isSome]) (ho : Blk w qo 30 o.arr) (hao : acc.getD upd0 = o) (hfo : qf ≠ qo) :
    Calls Try.prog 34 #[u.val, .pointer (some ⟨qi, 0, none⟩), .pointer (some ⟨qf, 0, none⟩), .pointer (some ⟨qo, 0, none⟩)] w (Took w qf qo (stepK it acc u)) := by
  have e1 := Ext.alloc w (.cells #[.int .i64 u.item.by_, .int .i64 u.item.n, .int .i64 u.st.v.by_, .int .i64 u.st.v.n, .int .i64 u.st.time, .string u.p, .string u.d, .bool u.dead] 30)
  have hu := Blk.new w 30 #[.int .i64 u.item.by_, .int .i64 u.item.n, .int .i64 u.st.v.by_, .int .i64 u.st.v.n, .int .i64 u.st.time, .string u.p, .string u.d, .bool u.dead]
  have hi1 := hi.ext e1
  have hf1 := hf.ext e1
  have ho1 := ho.ext e1
  have nf : w.heap.size ≠ qf := by have := hf.lt; omega
  have no : w.heap.size ≠ qo := by have := ho.lt; omega
  unfold UpdI.val
  have HE := hid e1
  clear hi hf ho e1
  have i0 := hi1.cell (i := 0) (v := .int .i64 it.by_) rfl
  have i1 := hi1.cell (i := 1) (v := .int .i64 it.n) rfl
  have li := hi1.lt
  have f0 := hf1.cell (i := 0) rfl
  have lf := hf1.lt
  by_cases heq : u.item = it
  · have h2 := (eq2_iff u.item it).2 heq
    unfold stepK
    rw [if_pos heq]
    have HO := hid ho1
    have HF := hid hf1
    unfold UpdI.arr at ho1
    have p0 := ho1.cell (i := 0) (v := .int .i64 o.item.by_) rfl
    have p1 := ho1.cell (i := 1) (v := .int .i64 o.item.n) rfl
    have p2 := ho1.cell (i := 2) (v := .int .i64 o.st.v.by_) rfl
    have p3 := ho1.cell (i := 3) (v := .int .i64 o.st.v.n) rfl
    have p4 := ho1.cell (i := 4) (v := .int .i64 o.st.time) rfl
    have p5 := ho1.cell (i := 5) (v := .string o.p) rfl
    have p6 := ho1.cell (i := 6) (v := .string o.d) rfl
    have p7 := ho1.cell (i := 7) (v := .bool o.dead) rfl
    have z0 := ho1.frozen 0
    have z1 := ho1.frozen 1
    have z2 := ho1.frozen 2
    have z3 := ho1.frozen 3
    have z4 := ho1.frozen 4
    have z5 := ho1.frozen 5
    have z6 := ho1.frozen 6
    have z7 := ho1.frozen 7
    have lo := ho1.lt
    have fz := hf1.frozen 0
    have u0 := hu.cell (i := 0) (v := .int .i64 u.item.by_) rfl
    have u1 := hu.cell (i := 1) (v := .int .i64 u.item.n) rfl
    have u2 := hu.cell (i := 2) (v := .int .i64 u.st.v.by_) rfl
    have u3 := hu.cell (i := 3) (v := .int .i64 u.st.v.n) rfl
    have u4 := hu.cell (i := 4) (v := .int .i64 u.st.time) rfl
    have u5 := hu.cell (i := 5) (v := .string u.p) rfl
    have u6 := hu.cell (i := 6) (v := .string u.d) rfl
    have u7 := hu.cell (i := 7) (v := .bool u.dead) rfl
    have lu := hu.lt
    clear heq hi1 hf1 ho1 hu
    cases acc with
    | none =>
      go_enter Try.func34, Try.ntmps34
      go_wp2_with fail
      go_end0
      exact took_of HE.out HF.out HO.out hfo u
    | some x =>
      have hxo : x = o := hao
      subst hxo
      have HW := fun W => hid (wins_c u x W)
      unfold UpdI.val at HW
      show Calls _ _ _ _ (Took w qf qo (if older x.st u.st = true then some u else some x))
      cases ho : older x.st u.st with
      | false =>
        rw [ho] at HW
        rw [if_neg Bool.false_ne_true]
        clear ho
        go_enter Try.func34, Try.ntmps34
        go_wp2_with (go_at_call 15; refine (HW _).out.mono ?_; rintro e w2 ⟨rfl, hx2⟩; have HX2 := hid hx2; clear hx2)
        go_end0
        exact ⟨rfl, Keep.of_ext (HE.out.trans HX2.out), HF.out.ext HX2.out, HO.out.ext HX2.out⟩
      | true =>
        rw [ho] at HW
        rw [if_pos rfl]
        clear ho
        go_enter Try.func34, Try.ntmps34
        go_wp2_with (go_at_call 15; refine (HW _).out.mono ?_; rintro e w2 ⟨rfl, hx2⟩; have HX2 := hid hx2; have HO2 := hid (HO.out.ext hx2); have HF2 := hid (HF.out.ext hx2); have g0 := HF2.out.cell (i := 0) rfl; have gz := HF2.out.frozen 0; have gl := HF2.out.lt; have s0 := hx2.cell u0; have s1 := hx2.cell u1; have s2 := hx2.cell u2; have s3 := hx2.cell u3; have s4 := hx2.cell u4; have s5 := hx2.cell u5; have s6 := hx2.cell u6; have s7 := hx2.cell u7; have sl := Nat.lt_of_lt_of_le lu hx2.size; have k0 := HO2.out.cell (i := 0) rfl; have k1 := HO2.out.cell (i := 1) rfl; have k2 := HO2.out.cell (i := 2) rfl; have k3 := HO2.out.cell (i := 3) rfl; have k4 := HO2.out.cell (i := 4) rfl; have k5 := HO2.out.cell (i := 5) rfl; have k6 := HO2.out.cell (i := 6) rfl; have k7 := HO2.out.cell (i := 7) rfl; have m0 := HO2.out.frozen 0; have m1 := HO2.out.frozen 1; have m2 := HO2.out.frozen 2; have m3 := HO2.out.frozen 3; have m4 := HO2.out.frozen 4; have m5 := HO2.out.frozen 5; have m6 := HO2.out.frozen 6; have m7 := HO2.out.frozen 7; have kl := HO2.out.lt; clear hx2)
        go_end0
        exact took_of (HE.out.trans HX2.out) HF2.out HO2.out hfo u
  · have h2 : eq2 u.item.by_ u.item.n it.by_ it.n = false := by rw [Bool.eq_false_iff, Ne, eq2_iff]; exact heq
    have es : stepK it acc u = acc := by unfold stepK; rw [if_neg heq]
    rw [es]
    have HF := hid hf1
    have HO := hid ho1
    clear heq es hi1 hf1 ho1 hu
    go_enter Try.func34, Try.ntmps34
    go_wp2_with fail
    go_end0
    exact ⟨rfl, Keep.of_ext HE.out, HF.out, by rw [hao]; exact HO.out⟩

def bestV (x : Option UpdI) : Value := .tuple #[.agg (x.getD upd0).arr, .bool x.isSome]
set_option maxRecDepth 100000 in
set_option maxHeartbeats 4000000 in
theorem ubest_c (w : World) (v : Value) (l : List UpdI) (it : Ver) (h : Sl w 8 v (l.map UpdI.cells)) (hl : l.length ≤ 1000000) : Calls Try.prog 25 #[v, it.val] w (Ret (bestV (bestK l it)) w) := by
  obtain ⟨A, c, rfl, h1, h2, h3⟩ := sl_get h
  unfold maxLen at h2
  clear h
  unfold Ver.val
  go_enter Try.func25, Try.ntmps25
  go_wp2_with fail
  have e0 : Ext w ((((w.alloc (.cells #[.int .i64 it.by_, .int .i64 it.n] 26)).alloc (.cells upd0.arr 30)).alloc (.cells upd0.arr 30)).alloc (.cells #[.bool false] 4)) := (((Ext.alloc _ _).alloc' _).alloc' _).alloc' _
  have b1 := (((Blk.new w 26 #[.int .i64 it.by_, .int .i64 it.n]).alloc (.cells upd0.arr 30)).alloc (.cells upd0.arr 30)).alloc (.cells #[.bool false] 4)
  have b2 := ((Blk.new (w.alloc (.cells #[.int .i64 it.by_, .int .i64 it.n] 26)) 30 upd0.arr).alloc (.cells upd0.arr 30)).alloc (.cells #[.bool false] 4)
  have b3 := (Blk.new ((w.alloc (.cells #[.int .i64 it.by_, .int .i64 it.n] 26)).alloc (.cells upd0.arr 30)) 30 upd0.arr).alloc (.cells #[.bool false] 4)
  have b4 := Blk.new (((w.alloc (.cells #[.int .i64 it.by_, .int .i64 it.n] 26)).alloc (.cells upd0.arr 30)).alloc (.cells upd0.arr 30)) 4 #[.bool false]
  simp only [World.size_alloc] at b2 b3 b4
  unfold UpdI.arr upd0 at e0 b1 b2 b3 b4
  generalize (((w.alloc (.cells #[.int .i64 it.by_, .int .i64 it.n] 26)).alloc (.cells _ 30)).alloc (.cells _ 30)).alloc (.cells #[.bool false] 4) = w0 at e0 b1 b2 b3 b4 ⊢
  obtain ⟨q1, hq1⟩ : ∃ q, q = w.heap.size := ⟨_, rfl⟩
  obtain ⟨q2, hq2⟩ : ∃ q, q = w.heap.size + 1 := ⟨_, rfl⟩
  obtain ⟨q3, hq3⟩ : ∃ q, q = w.heap.size + 1 + 1 := ⟨_, rfl⟩
  obtain ⟨q4, hq4⟩ : ∃ q, q = w.heap.size + 1 + 1 + 1 := ⟨_, rfl⟩
  rw [← hq4, ← hq3, ← hq2, ← hq1]
  rw [← hq4] at b4
  rw [← hq3] at b3
  rw [← hq2] at b2
  rw [← hq1] at b1
  have n1 : w.heap.size ≤ q1 := by omega
  have n2 : w.heap.size ≤ q2 := by omega
  have n3 : w.heap.size ≤ q3 := by omega
  have n4 : w.heap.size ≤ q4 := by omega
  have m1 : ¬ (q1 = q4 ∨ q1 = q3) := by omega
  have m2 : ¬ (q2 = q4 ∨ q2 = q3) := by omega
  have m4 : q4 ≠ q3 := by omega
  have m23 : q2 ≠ q3 := by omega
  have m24 : q2 ≠ q4 := by omega
  clear hq1 hq2 hq3 hq4
  have HE0 := hid e0
  have B1 := hid b1
  have B2 := hid b2
  have B3 := hid b3
  have B4 := hid b4
  clear e0 b1 b2 b3 b4
  go_loopw [14] (fun i wr => ∃ k : Nat, k ≤ l.length ∧ i = .int .i64 k ∧ Ext w wr ∧ Blk wr q1 26 #[.int .i64 it.by_, .int .i64 it.n] ∧ Blk wr q2 30 upd0.arr ∧ Blk wr q3 30 ((bestK (l.take k) it).getD upd0).arr ∧ Blk wr q4 4 #[.bool (bestK (l.take k) it).isSome]) (fun i _ => l.length - (intOf i).toNat)
  case atStart => exact ⟨0, by omega, rfl, HE0.out, B1.out, B2.out, B3.out, B4.out⟩
  case round =>
    obtain ⟨k, hk, rfl, hE, hb1, hb2, hb3, hb4⟩ := hrel
    have HE := hid hE
    by_cases hlt : k < l.length
    · obtain ⟨b, o, rfl, lb, hcell⟩ := h3 (by omega)
      have c0 := hE.cell (hcell k hlt 0 _ rfl)
      have c1 := hE.cell (hcell k hlt 1 _ rfl)
      have c2 := hE.cell (hcell k hlt 2 _ rfl)
      have c3 := hE.cell (hcell k hlt 3 _ rfl)
      have c4 := hE.cell (hcell k hlt 4 _ rfl)
      have c5 := hE.cell (hcell k hlt 5 _ rfl)
      have c6 := hE.cell (hcell k hlt 6 _ rfl)
      have c7 := hE.cell (hcell k hlt 7 _ rfl)
      rw [Nat.add_zero] at c0
      have lbr := Nat.lt_of_lt_of_le lb hE.size
      have HBk := hid (bestK_take hlt it)
      have HT := fun W (hW : Ext wr W) => hid (best1_c W l[k] _ it q1 q4 q3 (bestK (l.take k) it) (hb1.ext hW) (hb4.ext hW) (hb3.ext hW) rfl m4)
      have HB1 := hid hb1
      have HB2 := hid hb2
      clear hcell h3 hE hb1 hb2 hb3 hb4
      generalize l[k] = x at c0 c1 c2 c3 c4 c5 c6 c7 HBk HT
      unfold UpdI.val at HT
      go_wp2_with fail
      refine (HT _ (Ext.alloc _ _)).out.mono ?_
      rintro e w5 ⟨rfl, hk5, hf5, ho5⟩
      have HK5 := hid hk5
      have HF5 := hid hf5
      have HO5 := hid ho5
      clear hk5 hf5 ho5
      go_wp2_with fail
      go_roundw
      case rel => exact ⟨k + 1, by omega, by go_num, HK5.out.toExt (HE.out.alloc' _) (fun q hq => by rcases hq with e | e <;> (rw [e]; assumption)), (HB1.out.alloc _).keep HK5.out m1, (HB2.out.alloc _).keep HK5.out m2, by rw [HBk.out]; exact HO5.out, by rw [HBk.out]; exact HF5.out⟩
      case measure => simp [intOf]; omega
    · obtain rfl : k = l.length := by omega
      rw [List.take_length] at hb3 hb4
      obtain ⟨o, ho⟩ : ∃ o, o = (bestK l it).getD upd0 := ⟨_, rfl⟩
      obtain ⟨bb, hbb⟩ : ∃ b, b = (bestK l it).isSome := ⟨_, rfl⟩
      rw [← ho] at hb3
      rw [← hbb] at hb4
      have HV : Hid (bestV (bestK l it) = .tuple #[.agg o.arr, .bool bb]) := by unfold bestV Hid; rw [← ho, ← hbb]
      have HB2 := hid hb2
      unfold UpdI.arr at hb3
      have p0 := hb3.cell (i := 0) (v := .int .i64 o.item.by_) rfl
      have p1 := hb3.cell (i := 1) (v := .int .i64 o.item.n) rfl
      have p2 := hb3.cell (i := 2) (v := .int .i64 o.st.v.by_) rfl
      have p3 := hb3.cell (i := 3) (v := .int .i64 o.st.v.n) rfl
      have p4 := hb3.cell (i := 4) (v := .int .i64 o.st.time) rfl
      have p5 := hb3.cell (i := 5) (v := .string o.p) rfl
      have p6 := hb3.cell (i := 6) (v := .string o.d) rfl
      have p7 := hb3.cell (i := 7) (v := .bool o.dead) rfl
      have z0 := hb3.frozen 0
      have z1 := hb3.frozen 1
      have z2 := hb3.frozen 2
      have z3 := hb3.frozen 3
      have z4 := hb3.frozen 4
      have z5 := hb3.frozen 5
      have z6 := hb3.frozen 6
      have z7 := hb3.frozen 7
      have lo := hb3.lt
      have f0 := hb4.cell (i := 0) rfl
      have lf := hb4.lt
      have y0 := hb2.frozen 0
      have y1 := hb2.frozen 1
      have y2 := hb2.frozen 2
      have y3 := hb2.frozen 3
      have y4 := hb2.frozen 4
      have y5 := hb2.frozen 5
      have y6 := hb2.frozen 6
      have y7 := hb2.frozen 7
      have l2 := hb2.lt
      unfold UpdI.arr upd0 at hb2
      have r0 := hb2.cell (i := 0) rfl
      have r1 := hb2.cell (i := 1) rfl
      have r2 := hb2.cell (i := 2) rfl
      have r3 := hb2.cell (i := 3) rfl
      have r4 := hb2.cell (i := 4) rfl
      have r5 := hb2.cell (i := 5) rfl
      have r6 := hb2.cell (i := 6) rfl
      have r7 := hb2.cell (i := 7) rfl
      clear hE h3 hb1 hb2 hb3 hb4 ho hbb
      go_wp2_with fail
      go_region
      go_wp2_with fail
      have HF : Hid (Blk (put8 wr q2 o).drew q2 30 o.arr) := (put8_blk HB2.out o).drew
      refine bodyPost_ret (results_cell_row_tmp rfl _ _ q2 30 _ (0, 0) _ rfl HF.out Try.underlying30 rfl (show (Try.prog.info? 30).map (·.size) = some 8 by kernel_rfl)) rfl ⟨?_, ?_⟩
      · rw [HV.out]; rfl
      · exact Ext.drew' ((put8_keep (S := fun _ => False) (Keep.of_ext HE.out) (.inr n2) o).toExt (Ext.refl _) (fun _ h => h.elim))
end Go.Proofs.Ytjbpdepeimgocaa
