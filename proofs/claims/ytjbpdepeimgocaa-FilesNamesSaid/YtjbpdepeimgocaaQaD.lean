/-
  Of updates whose texts are not far too long: may they be? (Whatever the answer is.)
  Light; the document's Right of a version and of an update; its Best, Match of nothing, View of nothing.
  The document's Best; Match and View of a filter that is empty.
  The document's Best, exact: the place of the best update of an item.
-/
import Derived.Test.YtjbpdepeimgocaaLfZ
namespace Go.Proofs.Ytjbpdepeimgocaa
set_option linter.unusedSimpArgs false
set_option linter.unusedVariables false
open Go.RowKit Go.Sort

/-- A truth, whichever; nothing old is touched. -/
def RetB (w : World) : Ending → World → Prop := fun e w' => ∃ b, e = .returned (.bool b) ∧ Ext w w'
set_option maxRecDepth 100000 in
set_option maxHeartbeats 2000000 in
theorem rname_e (s : ByteArray) (w : World) (hs : s.size ≤ 100000) : Calls Try.prog 23 #[.string s] w (RetB w) := by
  go_enter Try.func23, Try.ntmps23
  go_wp2_with fail
  go_loopw [3, 4] (fun d i wr => ∃ (k m : Nat), k ≤ s.size ∧ m ≤ k ∧ i = .int .i64 k ∧ d = .int .i64 m ∧ Ext w wr) (fun _ i _ => s.size - (intOf i).toNat)
  case atStart => exact ⟨0, 0, by omega, by omega, rfl, rfl, Ext.refl _⟩
  case round =>
    obtain ⟨k, m, hk, hm, rfl, rfl, hE⟩ := hrel
    have HE := hid hE
    by_cases hlt : k < s.size
    · clear hE
      by_cases h46 : ((s[k].toNat : Int) == 46) = true
      · go_wp2_with fail
        go_roundw
        case rel => exact ⟨k + 1, m + 1, by omega, by omega, by go_num, by go_num, HE.out⟩
        case measure => simp [intOf]; omega
      · have h47 : ((s[k].toNat : Int) == 46) = false := by simpa using h46
        clear h46
        generalize (s[k].toNat : Int) = z at h47
        go_wp2_with fail
        all_goals first
          | (go_ret; exact ⟨_, rfl, HE.out⟩)
          | exact ⟨⟨k + 1, m, by omega, by omega, by go_num, rfl, HE.out⟩, by simp [intOf]; omega⟩
          | exact ⟨⟨k + 1, m + 1, by omega, by omega, by go_num, by go_num, HE.out⟩, by simp [intOf]; omega⟩
    · obtain rfl : k = s.size := by omega
      clear hE
      go_wp2_with fail
      all_goals (go_ret; exact ⟨_, rfl, HE.out⟩)
set_option maxRecDepth 100000 in
set_option maxHeartbeats 2000000 in
theorem rsplit_e (s : ByteArray) (w : World) (hs : s.size ≤ 100000) : Calls Try.prog 22 #[.string s, .int .u8 47] w (RetQ (fun v w' => ∃ l : List ByteArray, RowAt strC 1 l v w' ∧ l.length ≤ 100001 ∧ ∀ x ∈ l, x.size ≤ 100000) w) := by
  go_enter Try.func22, Try.ntmps22
  go_wp2_with fail
  go_loopw [5, 6, 7] (fun v a i wr => ∃ (k m : Nat) (acc : List ByteArray), k ≤ s.size ∧ m ≤ k ∧ i = .int .i64 k ∧ a = .int .i64 m ∧ Ext w wr ∧ acc.length ≤ k ∧ (∀ x ∈ acc, x.size ≤ 100000) ∧ wr.ownsRow w.heap.size 9 1 v acc.length (acc.map strC).flatten) (fun _ _ i _ => s.size - (intOf i).toNat)
  case atStart => exact ⟨0, 0, [], by omega, by omega, rfl, rfl, Ext.refl _, by simp, by simp, ownsRow_nil _ _ _ _⟩
  case round =>
    obtain ⟨k, m, acc, hk, hm, rfl, rfl, hE, hal, hasz, hO⟩ := hrel
    have HE := hid hE
    have HO := hid hO
    have HA : Hid (∀ j, j ≤ s.size → ∀ x ∈ acc ++ [s.extract m j], x.size ≤ 100000) := fun j hj x hx => by
      rcases List.mem_append.1 hx with hx | hx
      · exact hasz x hx
      · rw [List.mem_singleton.1 hx, ByteArray.size_extract]; omega
    have HAs := hid hasz
    by_cases hlt : k < s.size
    · clear hE hO hasz
      by_cases h46 : ((s[k].toNat : Int) == 47) = true
      · obtain ⟨v', w6, hrun6, ho6, hk6, _⟩ := app_one (P := Try.prog) str_elem str_coded HO.out HE.out.size (s.extract m k) (by omega) (by omega)
        simp only [strC] at hrun6
        have HE6 := hid (hk6.toExt HE.out (fun q hq => (row_block HO.out q hq).1))
        have HO6 := hid ho6
        clear ho6 hk6
        go_wp2_with (at_builtin; refine wpList_app rfl (.tmp 19) (.tmp 24) _ _ rfl rfl rfl hrun6 ?_)
        go_roundw
        case rel => exact ⟨k + 1, k + 1, acc ++ [s.extract m k], by omega, by omega, by go_num, by go_num, HE6.out, by simp; omega, HA.out k (by omega), HO6.out⟩
        case measure => simp [intOf]; omega
      · have h47 : ((s[k].toNat : Int) == 47) = false := by simpa using h46
        clear h46
        go_wp2_with fail
        go_roundw
        case rel => exact ⟨k + 1, m, acc, by omega, by omega, by go_num, rfl, HE.out, by omega, HAs.out, HO.out⟩
        case measure => simp [intOf]; omega
    · obtain rfl : k = s.size := by omega
      obtain ⟨v', w6, hrun6, ho6, hk6, _⟩ := app_one (P := Try.prog) str_elem str_coded HO.out HE.out.size (s.extract m s.size) (by omega) (by omega)
      simp only [strC] at hrun6
      have HE6 := hid (hk6.toExt HE.out (fun q hq => (row_block HO.out q hq).1))
      have HO6 := hid ho6
      clear ho6 hk6 hE hO hasz
      go_wp2_with (at_builtin; refine wpList_app rfl (.tmp 28) (.tmp 32) _ _ rfl rfl rfl hrun6 ?_)
      go_ret
      exact ⟨_, rfl, ⟨_, RowAt.of_row str_coded HO6.out (fun h0 => by simp at h0), by simp; omega, HA.out _ (Nat.le_refl _)⟩, HE6.out⟩
set_option maxRecDepth 100000 in
set_option maxHeartbeats 2000000 in
theorem rright_e (s : ByteArray) (w : World) (hs : s.size ≤ 100000) : Calls Try.prog 12 #[.string s] w (RetB w) := by
  have HSp := hid (rsplit_e s w hs)
  go_enter Try.func12, Try.ntmps12
  go_wp2_with (go_at_call 22; refine (HSp.out).mono ?_; rintro e w1 ⟨v1, rfl, ⟨l, hv, hl1, hl2⟩, hx⟩; have HX := hid hx; obtain ⟨A, c, rfl, h1, h2, h3⟩ := sl_get hv.1; clear hx hv)
  clear HSp
  unfold maxLen at h2
  go_loopw [4] (fun i wr => ∃ k : Nat, k ≤ l.length ∧ i = .int .i64 k ∧ Ext w1 wr) (fun i _ => l.length - (intOf i).toNat)
  case atStart => exact ⟨0, by omega, rfl, Ext.refl _⟩
  case round =>
    obtain ⟨k, hk, rfl, hE⟩ := hrel
    have HE := hid hE
    by_cases hlt : k < l.length
    · obtain ⟨b, o, rfl, lb0, hc⟩ := h3 (by omega)
      have c0 := hE.cell (hc k hlt 0 _ rfl)
      rw [Nat.mul_one, Nat.add_zero] at c0
      have lbr := Nat.lt_of_lt_of_le lb0 hE.size
      have HN := fun W => hid (rname_e l[k] W (hl2 _ (List.getElem_mem hlt)))
      clear hc h3 hE hl2
      generalize l[k] = t at c0 HN
      go_wp2_with (go_at_call 23; refine ((HN _).out).mono ?_; rintro e w' ⟨b2, rfl, hx⟩; have HX2 := hid hx; clear hx; cases b2)
      all_goals go_wp2_with fail
      all_goals first
        | (go_ret; exact ⟨_, rfl, HX.out.trans (HE.out.trans HX2.out)⟩)
        | exact ⟨⟨k + 1, by omega, by go_num, HE.out.trans HX2.out⟩, by simp [intOf]; omega⟩
    · obtain rfl : k = l.length := by omega
      clear hE h3 hl2
      go_wp2_with fail
      all_goals (go_ret; exact ⟨_, rfl, HX.out.trans HE.out⟩)
end Go.Proofs.Ytjbpdepeimgocaa
namespace Go.Proofs.Ytjbpdepeimgocaa
set_option linter.unusedSimpArgs false
set_option linter.unusedVariables false
open Go.RowKit Go.Sort

def lightU (u : UpdI) : Bool := decide (u.p.size < 200) && decide (u.d.size < 400)
set_option maxRecDepth 100000 in
set_option maxHeartbeats 1000000 in
theorem light_c (u : UpdI) (w : World) : Calls Try.prog 10 #[u.val] w (Ret (.bool (lightU u)) w) := by
  unfold UpdI.val lightU
  by_cases h1 : u.p.size < 200
  · have d1 : decide ((u.p.size : Int) < 200) = true := by simp; omega
    have e1 : decide (u.p.size < 200) = true := decide_eq_true h1
    by_cases h2 : u.d.size < 400
    · have d2 : decide ((u.d.size : Int) < 400) = true := by simp; omega
      have e2 : decide (u.d.size < 400) = true := decide_eq_true h2
      rw [e1, e2]
      clear h1 h2 e1 e2
      go_enter Try.func10, Try.ntmps10
      go_wp2_with fail
      go_ret
      exact ⟨rfl, Ext.alloc _ _⟩
    · have d2 : decide ((u.d.size : Int) < 400) = false := by simp; omega
      have e2 : decide (u.d.size < 400) = false := decide_eq_false h2
      rw [e1, e2]
      clear h1 h2 e1 e2
      go_enter Try.func10, Try.ntmps10
      go_wp2_with fail
      go_ret
      exact ⟨rfl, Ext.alloc _ _⟩
  · have d1 : decide ((u.p.size : Int) < 200) = false := by simp; omega
    have e1 : decide (u.p.size < 200) = false := decide_eq_false h1
    rw [e1, Bool.false_and]
    clear h1 e1
    go_enter Try.func10, Try.ntmps10
    go_wp2_with fail
    go_ret
    exact ⟨rfl, Ext.alloc _ _⟩
set_option maxHeartbeats 400000 in
theorem vright_e (v : Ver) (w : World) : Calls Try.prog 11 #[v.val] w (RetB w) := by
  unfold Ver.val
  go_enter Try.func11, Try.ntmps11
  go_wp2
  all_goals go_ret
  all_goals exact ⟨_, rfl, (Ext.refl _).alloc' _⟩
set_option maxRecDepth 100000 in
set_option maxHeartbeats 2000000 in
theorem uright_e (u : UpdI) (w : World) (hu : lightU u = true) : Calls Try.prog 5 #[u.val] w (RetB w) := by
  have hp : u.p.size < 200 := by unfold lightU at hu; simp at hu; exact hu.1
  have H1 := fun W => hid (vright_e u.item W)
  have H2 := fun W => hid (vright_e u.st.v W)
  have H3 := fun W => hid (rright_e u.p W (by omega))
  unfold Ver.val at H1 H2
  unfold UpdI.val
  clear hu
  have hB := Blk.new w 30 #[.int .i64 u.item.by_, .int .i64 u.item.n, .int .i64 u.st.v.by_, .int .i64 u.st.v.n, .int .i64 u.st.time, .string u.p, .string u.d, .bool u.dead]
  have hE := Ext.alloc w (.cells #[.int .i64 u.item.by_, .int .i64 u.item.n, .int .i64 u.st.v.by_, .int .i64 u.st.v.n, .int .i64 u.st.time, .string u.p, .string u.d, .bool u.dead] 30)
  have HB := hid hB
  have X0 := hid hE
  clear hB hE
  go_enter Try.func5, Try.ntmps5
  go_wp2_with (first
    | (go_at_call 12; have hx0 := X2.out; clear hx0; refine ((H3 _).out).mono ?_; rintro e w3 ⟨b3, rfl, hx⟩; clear c2 c3 c4 c5 c6 c7 lq; have hb := HB.out.ext hx; have c2 := hb.cell (i := 2) (v := .int .i64 u.st.v.by_) rfl; have c3 := hb.cell (i := 3) (v := .int .i64 u.st.v.n) rfl; have c4 := hb.cell (i := 4) (v := .int .i64 u.st.time) rfl; have c5 := hb.cell (i := 5) (v := .string u.p) rfl; have c6 := hb.cell (i := 6) (v := .string u.d) rfl; have c7 := hb.cell (i := 7) (v := .bool u.dead) rfl; have lq := hb.lt; have X3 := hid (X2.out.trans hx); have HB := hid hb; clear hb hx; clear X2; cases b3)
    | (go_at_call 11; have hx0 := X1.out; clear hx0; refine ((H2 _).out).mono ?_; rintro e w2 ⟨b2, rfl, hx⟩; clear c2 c3 c4 c5 c6 c7 lq; have hb := HB.out.ext hx; have c2 := hb.cell (i := 2) (v := .int .i64 u.st.v.by_) rfl; have c3 := hb.cell (i := 3) (v := .int .i64 u.st.v.n) rfl; have c4 := hb.cell (i := 4) (v := .int .i64 u.st.time) rfl; have c5 := hb.cell (i := 5) (v := .string u.p) rfl; have c6 := hb.cell (i := 6) (v := .string u.d) rfl; have c7 := hb.cell (i := 7) (v := .bool u.dead) rfl; have lq := hb.lt; have X2 := hid (X1.out.trans hx); have HB := hid hb; clear hb hx; clear X1; cases b2)
    | (go_at_call 11; have hx0 := X0.out; clear hx0; refine ((H1 _).out).mono ?_; rintro e w1 ⟨b1, rfl, hx⟩; have hb := HB.out.ext hx; have c2 := hb.cell (i := 2) (v := .int .i64 u.st.v.by_) rfl; have c3 := hb.cell (i := 3) (v := .int .i64 u.st.v.n) rfl; have c4 := hb.cell (i := 4) (v := .int .i64 u.st.time) rfl; have c5 := hb.cell (i := 5) (v := .string u.p) rfl; have c6 := hb.cell (i := 6) (v := .string u.d) rfl; have c7 := hb.cell (i := 7) (v := .bool u.dead) rfl; have lq := hb.lt; have X1 := hid (X0.out.trans hx); have HB := hid hb; clear hb hx; clear X0; cases b1))
  all_goals go_ret
  all_goals first
    | exact ⟨_, rfl, X3.out⟩
    | exact ⟨_, rfl, X2.out⟩
    | exact ⟨_, rfl, X1.out⟩
end Go.Proofs.Ytjbpdepeimgocaa
namespace Go.Proofs.Ytjbpdepeimgocaa
set_option linter.unusedSimpArgs false
set_option linter.unusedVariables false
open Go.RowKit Go.Sort

def BestAt (l : List UpdI) (i : Nat) (it : Ver) (z : Int) : Prop := (z = -1 ∧ bestK (l.take i) it = none) ∨ ∃ (m : Nat) (x : UpdI), l[m]? = some x ∧ z = (m : Int) ∧ bestK (l.take i) it = some x
theorem bestAt_skip {l : List UpdI} {i : Nat} (h : i < l.length) {it : Ver} {z : Int} (hb : BestAt l i it z) (hne : ¬ l[i].item = it) : BestAt l (i + 1) it z := by
  have e : bestK (l.take (i + 1)) it = bestK (l.take i) it := by rw [bestK_take h]; unfold stepK; rw [if_neg hne]
  unfold BestAt at *
  rw [e]; exact hb
theorem bestAt_first {l : List UpdI} {i : Nat} (h : i < l.length) {it : Ver} (hb : bestK (l.take i) it = none) (he : l[i].item = it) : BestAt l (i + 1) it i := by
  refine .inr ⟨i, l[i], List.getElem?_eq_getElem h, rfl, ?_⟩
  rw [bestK_take h, hb]; unfold stepK; rw [if_pos he]
theorem bestAt_take {l : List UpdI} {i : Nat} (h : i < l.length) {it : Ver} {x : UpdI} (hb : bestK (l.take i) it = some x) (he : l[i].item = it) (ho : older x.st l[i].st = true) : BestAt l (i + 1) it i := by
  refine .inr ⟨i, l[i], List.getElem?_eq_getElem h, rfl, ?_⟩
  rw [bestK_take h, hb]; unfold stepK; rw [if_pos he]; simp only [ho, if_true]
theorem bestAt_keep {l : List UpdI} {i : Nat} (h : i < l.length) {it : Ver} {x : UpdI} {m : Nat} (hm : l[m]? = some x) (hb : bestK (l.take i) it = some x) (he : l[i].item = it) (ho : older x.st l[i].st = false) : BestAt l (i + 1) it m := by
  refine .inr ⟨m, x, hm, rfl, ?_⟩
  rw [bestK_take h, hb]; unfold stepK; rw [if_pos he]; simp only [ho, if_false, Bool.false_eq_true]

set_option maxRecDepth 100000 in
set_option maxHeartbeats 2000000 in
theorem rbest_c (w : World) (v : Value) (l : List UpdI) (it : Ver) (h : Sl w 8 v (l.map UpdI.cells)) : Calls Try.prog 7 #[v, it.val] w (RetQ (fun u _ => ∃ z, u = .int .i64 z ∧ BestAt l l.length it z) w) := by
  obtain ⟨A, c, rfl, h1, h2, h3⟩ := sl_get h
  unfold maxLen at h2
  unfold Ver.val
  clear h
  go_enter Try.func7, Try.ntmps7
  go_wp2_with fail
  have hE0 := Ext.alloc w (.cells #[.int .i64 it.by_, .int .i64 it.n] 26)
  have hB0 := Blk.new w 26 #[.int .i64 it.by_, .int .i64 it.n]
  generalize w.alloc (.cells #[.int .i64 it.by_, .int .i64 it.n] 26) = w0 at hE0 hB0 ⊢
  generalize w.heap.size = g0 at hB0 ⊢
  have x0 := hB0.cell (i := 0) (v := .int .i64 it.by_) rfl
  have x1 := hB0.cell (i := 1) (v := .int .i64 it.n) rfl
  have lg0 := hB0.lt
  clear hB0
  go_loopw [5, 6] (fun vz i wr => ∃ (k : Nat) (z : Int), k ≤ l.length ∧ i = .int .i64 k ∧ vz = .int .i64 z ∧ BestAt l k it z ∧ Ext w0 wr) (fun _ i _ => l.length - (intOf i).toNat)
  case atStart => exact ⟨0, -1, by omega, rfl, rfl, .inl ⟨rfl, rfl⟩, Ext.refl _⟩
  case round =>
    obtain ⟨k, z, hk, rfl, rfl, hB, hE⟩ := hrel
    have y0 := hE.cell x0
    have y1 := hE.cell x1
    have lg := Nat.lt_of_lt_of_le lg0 hE.size
    have HE := hid hE
    have HEw := hid (hE0.trans hE)
    clear x0 x1 lg0
    by_cases hlt : k < l.length
    · obtain ⟨b, o, rfl, lb, hcell⟩ := h3 (by omega)
      have c0 := HEw.out.cell (hcell k hlt 0 _ rfl)
      have c1 := HEw.out.cell (hcell k hlt 1 _ rfl)
      have c2 := HEw.out.cell (hcell k hlt 2 _ rfl)
      have c3 := HEw.out.cell (hcell k hlt 3 _ rfl)
      have c4 := HEw.out.cell (hcell k hlt 4 _ rfl)
      rw [Nat.add_zero] at c0
      have lbw := Nat.lt_of_lt_of_le lb HEw.out.size
      by_cases he : l[k].item = it
      · have hs := eq2_true he
        rcases hB with ⟨rfl, hn⟩ | ⟨m, x, hm, rfl, hb⟩
        · have HR := hid (bestAt_first hlt hn he)
          clear hcell h3 hE hE0 hn he
          generalize l[k] = u at c0 c1 c2 c3 c4 hs
          go_wp2_with fail
          refine wp_region_any_order (by kernel_rfl) (by kernel_rfl) (by kernel_rfl) ?_
          repeat (first
            | (refine AWq.val rfl rfl rfl rfl (fun K hK => ?_); go_big_quiet_op; refine hK _ ?_; clear hK K)
            | (refine AWq.skip rfl rfl rfl ?_; simp only [Act.put, List.setIfInBounds_toArray, List.set_cons_succ, List.set_cons_zero]))
          refine AWq.done rfl rfl rfl (fun w2 x2 => ?_)
          simp only [closeAny, Act.put, List.setIfInBounds_toArray, List.set_cons_succ, List.set_cons_zero]
          go_wp2_with fail
          go_roundw
          case rel => exact ⟨k + 1, _, by omega, by go_num, rfl, HR.out, HE.out.trans x2⟩
          case measure => simp [intOf]; omega
        · obtain ⟨hml, hmx⟩ := List.getElem?_eq_some_iff.1 hm
          have e2 := HEw.out.cell (hcell m hml 2 _ rfl)
          have e3 := HEw.out.cell (hcell m hml 3 _ rfl)
          have e4 := HEw.out.cell (hcell m hml 4 _ rfl)
          rw [hmx] at e2 e3 e4
          have HO := fun W => hid (older_c x.st l[k].st W)
          unfold Stamp.val at HO
          cases ho : older x.st l[k].st with
          | true =>
            have HR := hid (bestAt_take hlt hb he ho)
            rw [ho] at HO
            clear hcell h3 hE hE0 hb he ho hm hmx
            generalize l[k] = u at c0 c1 c2 c3 c4 hs HO
            go_wp2_with fail
            refine wp_region_any_order (by kernel_rfl) (by kernel_rfl) (by kernel_rfl) ?_
            repeat (first
              | (refine AWq.val rfl rfl rfl rfl (fun K hK => ?_); go_big_quiet_op; refine hK _ ?_; clear hK K)
              | (refine AWq.skip rfl rfl rfl ?_; simp only [Act.put, List.setIfInBounds_toArray, List.set_cons_succ, List.set_cons_zero])
              | (refine AWq.call rfl Try.func20 (by kernel_rfl) (by kernel_rfl) rfl rfl rfl ?_; apply Exists.intro; refine And.intro (fun wc hc => ?_) ?_; (· (simp only [argsOf, anyAt, ↓reduceIte, Nat.reduceEqDiff, Array.getD_eq_getD_getElem?, List.getElem?_toArray, List.getElem?_cons_succ, List.getElem?_cons_zero, Option.getD_some]; with_reducible exact (HO _).out)); simp only [Act.put, List.setIfInBounds_toArray, List.set_cons_succ, List.set_cons_zero]))
            refine AWq.done rfl rfl rfl (fun w2 x2 => ?_)
            simp only [closeAny, Act.put, List.setIfInBounds_toArray, List.set_cons_succ, List.set_cons_zero]
            go_wp2_with fail
            go_roundw
            case rel => exact ⟨k + 1, _, by omega, by go_num, rfl, HR.out, HE.out.trans x2⟩
            case measure => simp [intOf]; omega
          | false =>
            have HR := hid (bestAt_keep hlt hm hb he ho)
            rw [ho] at HO
            clear hcell h3 hE hE0 hb he ho hm hmx
            generalize l[k] = u at c0 c1 c2 c3 c4 hs HO
            go_wp2_with fail
            refine wp_region_any_order (by kernel_rfl) (by kernel_rfl) (by kernel_rfl) ?_
            repeat (first
              | (refine AWq.val rfl rfl rfl rfl (fun K hK => ?_); go_big_quiet_op; refine hK _ ?_; clear hK K)
              | (refine AWq.skip rfl rfl rfl ?_; simp only [Act.put, List.setIfInBounds_toArray, List.set_cons_succ, List.set_cons_zero])
              | (refine AWq.call rfl Try.func20 (by kernel_rfl) (by kernel_rfl) rfl rfl rfl ?_; apply Exists.intro; refine And.intro (fun wc hc => ?_) ?_; (· (simp only [argsOf, anyAt, ↓reduceIte, Nat.reduceEqDiff, Array.getD_eq_getD_getElem?, List.getElem?_toArray, List.getElem?_cons_succ, List.getElem?_cons_zero, Option.getD_some]; with_reducible exact (HO _).out)); simp only [Act.put, List.setIfInBounds_toArray, List.set_cons_succ, List.set_cons_zero]))
            refine AWq.done rfl rfl rfl (fun w2 x2 => ?_)
            simp only [closeAny, Act.put, List.setIfInBounds_toArray, List.set_cons_succ, List.set_cons_zero]
            go_wp2_with fail
            go_roundw
            case rel => exact ⟨k + 1, _, by omega, by go_num, rfl, HR.out, HE.out.trans x2⟩
            case measure => simp [intOf]; omega
      · have hs := eq2_false he
        have HR := hid (bestAt_skip hlt hB he)
        clear hcell h3 hE hE0 he hB
        generalize l[k] = u at c0 c1 c2 c3 c4 hs
        go_wp2_with fail
        refine wp_region_any_order (by kernel_rfl) (by kernel_rfl) (by kernel_rfl) ?_
        repeat (first
          | (refine AWq.val rfl rfl rfl rfl (fun K hK => ?_); go_big_quiet_op; refine hK _ ?_; clear hK K)
          | (refine AWq.skip rfl rfl rfl ?_; simp only [Act.put, List.setIfInBounds_toArray, List.set_cons_succ, List.set_cons_zero]))
        refine AWq.done rfl rfl rfl (fun w2 x2 => ?_)
        simp only [closeAny, Act.put, List.setIfInBounds_toArray, List.set_cons_succ, List.set_cons_zero]
        go_wp2_with fail
        go_roundw
        case rel => exact ⟨k + 1, _, by omega, by go_num, rfl, HR.out, HE.out.trans x2⟩
        case measure => simp [intOf]; omega
    · obtain rfl : k = l.length := by omega
      have HB := hid hB
      clear hE hE0 h3 hB
      go_wp2_with fail
      go_ret
      exact ⟨_, rfl, ⟨_, rfl, HB.out⟩, HEw.out⟩
theorem bestAt_in {l : List UpdI} {it : Ver} {z : Int} (h : BestAt l l.length it z) (hin : ∃ u ∈ l, u.item = it) : ∃ (m : Nat) (x : UpdI), l[m]? = some x ∧ z = (m : Int) ∧ bestK l it = some x := by
  unfold BestAt at h
  rw [List.take_length] at h
  rcases h with ⟨_, hn⟩ | h
  · obtain ⟨x, hx⟩ := bestK_some hin
    rw [hx] at hn; cases hn
  · exact h
end Go.Proofs.Ytjbpdepeimgocaa
namespace Go.Proofs.Ytjbpdepeimgocaa
set_option linter.unusedSimpArgs false
set_option linter.unusedVariables false
open Go.RowKit Go.Sort

/-- The place of the best update of an item among the first i. -/
def ixK (l : List UpdI) (it : Ver) : Nat → Option Nat
  | 0 => none
  | i + 1 => match l[i]? with
    | none => ixK l it i
    | some u => if u.item = it then (match ixK l it i with | none => some i | some m => if (match l[m]? with | some x => older x.st u.st | none => false) then some i else some m) else ixK l it i
def BestX (l : List UpdI) (i : Nat) (it : Ver) (z : Int) : Prop := (z = -1 ∧ ixK l it i = none) ∨ ∃ (m : Nat) (x : UpdI), l[m]? = some x ∧ z = (m : Int) ∧ ixK l it i = some m
theorem ixK_step {l : List UpdI} {i : Nat} (h : i < l.length) (it : Ver) : ixK l it (i + 1) = if l[i].item = it then (match ixK l it i with | none => some i | some m => if (match l[m]? with | some x => older x.st l[i].st | none => false) then some i else some m) else ixK l it i := by
  rw [ixK, List.getElem?_eq_getElem h]
theorem bestX_skip {l : List UpdI} {i : Nat} (h : i < l.length) {it : Ver} {z : Int} (hb : BestX l i it z) (hne : ¬ l[i].item = it) : BestX l (i + 1) it z := by
  have e : ixK l it (i + 1) = ixK l it i := by rw [ixK_step h, if_neg hne]
  unfold BestX at *
  rw [e]; exact hb
theorem bestX_first {l : List UpdI} {i : Nat} (h : i < l.length) {it : Ver} (hb : ixK l it i = none) (he : l[i].item = it) : BestX l (i + 1) it i := by
  refine .inr ⟨i, l[i], List.getElem?_eq_getElem h, rfl, ?_⟩
  rw [ixK_step h, hb, if_pos he]
theorem bestX_take {l : List UpdI} {i m : Nat} (h : i < l.length) {it : Ver} {x : UpdI} (hm : l[m]? = some x) (hb : ixK l it i = some m) (he : l[i].item = it) (ho : older x.st l[i].st = true) : BestX l (i + 1) it i := by
  refine .inr ⟨i, l[i], List.getElem?_eq_getElem h, rfl, ?_⟩
  rw [ixK_step h, hb, if_pos he]; simp only [hm, ho, if_true]
theorem bestX_keep {l : List UpdI} {i : Nat} (h : i < l.length) {it : Ver} {x : UpdI} {m : Nat} (hm : l[m]? = some x) (hb : ixK l it i = some m) (he : l[i].item = it) (ho : older x.st l[i].st = false) : BestX l (i + 1) it m := by
  refine .inr ⟨m, x, hm, rfl, ?_⟩
  rw [ixK_step h, hb, if_pos he]; simp only [hm, ho, if_false, Bool.false_eq_true]
set_option maxRecDepth 100000 in
set_option maxHeartbeats 2000000 in
theorem rbestX_c (w : World) (v : Value) (l : List UpdI) (it : Ver) (h : Sl w 8 v (l.map UpdI.cells)) : Calls Try.prog 7 #[v, it.val] w (RetQ (fun u _ => ∃ z, u = .int .i64 z ∧ BestX l l.length it z) w) := by
  obtain ⟨A, c, rfl, h1, h2, h3⟩ := sl_get h
  unfold maxLen at h2
  unfold Ver.val
  clear h
  go_enter Try.func7, Try.ntmps7
  go_wp2_with fail
  have hE0 := Ext.alloc w (.cells #[.int .i64 it.by_, .int .i64 it.n] 26)
  have hB0 := Blk.new w 26 #[.int .i64 it.by_, .int .i64 it.n]
  generalize w.alloc (.cells #[.int .i64 it.by_, .int .i64 it.n] 26) = w0 at hE0 hB0 ⊢
  generalize w.heap.size = g0 at hB0 ⊢
  have x0 := hB0.cell (i := 0) (v := .int .i64 it.by_) rfl
  have x1 := hB0.cell (i := 1) (v := .int .i64 it.n) rfl
  have lg0 := hB0.lt
  clear hB0
  go_loopw [5, 6] (fun vz i wr => ∃ (k : Nat) (z : Int), k ≤ l.length ∧ i = .int .i64 k ∧ vz = .int .i64 z ∧ BestX l k it z ∧ Ext w0 wr) (fun _ i _ => l.length - (intOf i).toNat)
  case atStart => exact ⟨0, -1, by omega, rfl, rfl, .inl ⟨rfl, rfl⟩, Ext.refl _⟩
  case round =>
    obtain ⟨k, z, hk, rfl, rfl, hB, hE⟩ := hrel
    have y0 := hE.cell x0
    have y1 := hE.cell x1
    have lg := Nat.lt_of_lt_of_le lg0 hE.size
    have HE := hid hE
    have HEw := hid (hE0.trans hE)
    clear x0 x1 lg0
    by_cases hlt : k < l.length
    · obtain ⟨b, o, rfl, lb, hcell⟩ := h3 (by omega)
      have c0 := HEw.out.cell (hcell k hlt 0 _ rfl)
      have c1 := HEw.out.cell (hcell k hlt 1 _ rfl)
      have c2 := HEw.out.cell (hcell k hlt 2 _ rfl)
      have c3 := HEw.out.cell (hcell k hlt 3 _ rfl)
      have c4 := HEw.out.cell (hcell k hlt 4 _ rfl)
      rw [Nat.add_zero] at c0
      have lbw := Nat.lt_of_lt_of_le lb HEw.out.size
      by_cases he : l[k].item = it
      · have hs := eq2_true he
        rcases hB with ⟨rfl, hn⟩ | ⟨m, x, hm, rfl, hb⟩
        · have HR := hid (bestX_first hlt hn he)
          clear hcell h3 hE hE0 hn he
          generalize l[k] = u at c0 c1 c2 c3 c4 hs
          go_wp2_with fail
          refine wp_region_any_order (by kernel_rfl) (by kernel_rfl) (by kernel_rfl) ?_
          repeat (first
            | (refine AWq.val rfl rfl rfl rfl (fun K hK => ?_); go_big_quiet_op; refine hK _ ?_; clear hK K)
            | (refine AWq.skip rfl rfl rfl ?_; simp only [Act.put, List.setIfInBounds_toArray, List.set_cons_succ, List.set_cons_zero]))
          refine AWq.done rfl rfl rfl (fun w2 x2 => ?_)
          simp only [closeAny, Act.put, List.setIfInBounds_toArray, List.set_cons_succ, List.set_cons_zero]
          go_wp2_with fail
          go_roundw
          case rel => exact ⟨k + 1, _, by omega, by go_num, rfl, HR.out, HE.out.trans x2⟩
          case measure => simp [intOf]; omega
        · obtain ⟨hml, hmx⟩ := List.getElem?_eq_some_iff.1 hm
          have e2 := HEw.out.cell (hcell m hml 2 _ rfl)
          have e3 := HEw.out.cell (hcell m hml 3 _ rfl)
          have e4 := HEw.out.cell (hcell m hml 4 _ rfl)
          rw [hmx] at e2 e3 e4
          have HO := fun W => hid (older_c x.st l[k].st W)
          unfold Stamp.val at HO
          cases ho : older x.st l[k].st with
          | true =>
            have HR := hid (bestX_take hlt hm hb he ho)
            rw [ho] at HO
            clear hcell h3 hE hE0 hb he ho hm hmx
            generalize l[k] = u at c0 c1 c2 c3 c4 hs HO
            go_wp2_with fail
            refine wp_region_any_order (by kernel_rfl) (by kernel_rfl) (by kernel_rfl) ?_
            repeat (first
              | (refine AWq.val rfl rfl rfl rfl (fun K hK => ?_); go_big_quiet_op; refine hK _ ?_; clear hK K)
              | (refine AWq.skip rfl rfl rfl ?_; simp only [Act.put, List.setIfInBounds_toArray, List.set_cons_succ, List.set_cons_zero])
              | (refine AWq.call rfl Try.func20 (by kernel_rfl) (by kernel_rfl) rfl rfl rfl ?_; apply Exists.intro; refine And.intro (fun wc hc => ?_) ?_; (· (simp only [argsOf, anyAt, ↓reduceIte, Nat.reduceEqDiff, Array.getD_eq_getD_getElem?, List.getElem?_toArray, List.getElem?_cons_succ, List.getElem?_cons_zero, Option.getD_some]; with_reducible exact (HO _).out)); simp only [Act.put, List.setIfInBounds_toArray, List.set_cons_succ, List.set_cons_zero]))
            refine AWq.done rfl rfl rfl (fun w2 x2 => ?_)
            simp only [closeAny, Act.put, List.setIfInBounds_toArray, List.set_cons_succ, List.set_cons_zero]
            go_wp2_with fail
            go_roundw
            case rel => exact ⟨k + 1, _, by omega, by go_num, rfl, HR.out, HE.out.trans x2⟩
            case measure => simp [intOf]; omega
          | false =>
            have HR := hid (bestX_keep hlt hm hb he ho)
            rw [ho] at HO
            clear hcell h3 hE hE0 hb he ho hm hmx
            generalize l[k] = u at c0 c1 c2 c3 c4 hs HO
            go_wp2_with fail
            refine wp_region_any_order (by kernel_rfl) (by kernel_rfl) (by kernel_rfl) ?_
            repeat (first
              | (refine AWq.val rfl rfl rfl rfl (fun K hK => ?_); go_big_quiet_op; refine hK _ ?_; clear hK K)
              | (refine AWq.skip rfl rfl rfl ?_; simp only [Act.put, List.setIfInBounds_toArray, List.set_cons_succ, List.set_cons_zero])
              | (refine AWq.call rfl Try.func20 (by kernel_rfl) (by kernel_rfl) rfl rfl rfl ?_; apply Exists.intro; refine And.intro (fun wc hc => ?_) ?_; (· (simp only [argsOf, anyAt, ↓reduceIte, Nat.reduceEqDiff, Array.getD_eq_getD_getElem?, List.getElem?_toArray, List.getElem?_cons_succ, List.getElem?_cons_zero, Option.getD_some]; with_reducible exact (HO _).out)); simp only [Act.put, List.setIfInBounds_toArray, List.set_cons_succ, List.set_cons_zero]))
            refine AWq.done rfl rfl rfl (fun w2 x2 => ?_)
            simp only [closeAny, Act.put, List.setIfInBounds_toArray, List.set_cons_succ, List.set_cons_zero]
            go_wp2_with fail
            go_roundw
            case rel => exact ⟨k + 1, _, by omega, by go_num, rfl, HR.out, HE.out.trans x2⟩
            case measure => simp [intOf]; omega
      · have hs := eq2_false he
        have HR := hid (bestX_skip hlt hB he)
        clear hcell h3 hE hE0 he hB
        generalize l[k] = u at c0 c1 c2 c3 c4 hs
        go_wp2_with fail
        refine wp_region_any_order (by kernel_rfl) (by kernel_rfl) (by kernel_rfl) ?_
        repeat (first
          | (refine AWq.val rfl rfl rfl rfl (fun K hK => ?_); go_big_quiet_op; refine hK _ ?_; clear hK K)
          | (refine AWq.skip rfl rfl rfl ?_; simp only [Act.put, List.setIfInBounds_toArray, List.set_cons_succ, List.set_cons_zero]))
        refine AWq.done rfl rfl rfl (fun w2 x2 => ?_)
        simp only [closeAny, Act.put, List.setIfInBounds_toArray, List.set_cons_succ, List.set_cons_zero]
        go_wp2_with fail
        go_roundw
        case rel => exact ⟨k + 1, _, by omega, by go_num, rfl, HR.out, HE.out.trans x2⟩
        case measure => simp [intOf]; omega
    · obtain rfl : k = l.length := by omega
      have HB := hid hB
      clear hE hE0 h3 hB
      go_wp2_with fail
      go_ret
      exact ⟨_, rfl, ⟨_, rfl, HB.out⟩, HEw.out⟩
end Go.Proofs.Ytjbpdepeimgocaa
