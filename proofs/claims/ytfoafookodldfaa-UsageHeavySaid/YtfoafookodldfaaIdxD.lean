/-
  Package index: Put.
-/
import Derived.Test.YtfoafookodldfaaIdxC
import Derived.Test.YtfoafookodldfaaApp
namespace Go.Proofs.Ytfoafookodldfaa
set_option linter.unusedSimpArgs false
set_option linter.unusedVariables false
open Go.RowKit

theorem pair_info : (Try.prog.info? 76).map (fun i => (i.zero, i.size, i.bytes)) = some (some (.agg #[.string ⟨#[]⟩, .int .i64 0]), 2, 24) := by kernel_rfl

def flatP (l : List PairI) : List Value := (l.map PairI.cells).flatten
theorem flatP_length (l : List PairI) : (flatP l).length = l.length * 2 := by
  induction l with
  | nil => rfl
  | cons x l ih =>
    have : flatP (x :: l) = x.cells ++ flatP l := rfl
    rw [this, List.length_append, ih]
    simp [PairI.cells]; omega
theorem flatP_append (l l' : List PairI) : flatP (l ++ l') = flatP l ++ flatP l' := by simp [flatP]
theorem flatP_get (l : List PairI) (k : Nat) (h : k < l.length) : (flatP l)[k * 2]? = some (.string l[k].name) ∧ (flatP l)[k * 2 + 1]? = some (.int .i64 l[k].n) := by
  have hx : (l.map PairI.cells)[k]? = some l[k].cells := by simp [h]
  have hl : ∀ y ∈ l.map PairI.cells, y.length = 2 := by
    intro y hy
    obtain ⟨p, _, rfl⟩ := List.mem_map.1 hy
    rfl
  exact ⟨flat_get 2 _ k 0 _ hl hx (by omega), flat_get 2 _ k 1 _ hl hx (by omega)⟩
theorem flatP_one (l : List PairI) : ∀ u ∈ flatP l, u.oneCell' = true := by
  intro u hu
  obtain ⟨y, hy, hu⟩ := List.mem_flatten.1 hu
  obtain ⟨p, _, rfl⟩ := List.mem_map.1 hy
  simp only [PairI.cells, List.mem_cons, List.not_mem_nil, or_false] at hu
  rcases hu with rfl | rfl <;> rfl
/-- a stretch of the pairs, read out of memory -/
theorem flat_cells {w : World} {b : Nat} {l : List PairI} (hc : ∀ k (h : k < l.length), w.cell? ⟨b, k * 2, none⟩ = some (.string l[k].name) ∧ w.cell? ⟨b, k * 2 + 1, none⟩ = some (.int .i64 l[k].n)) :
    ∀ j u, (flatP l)[j]? = some u → w.cell? ⟨b, j, none⟩ = some u := by
  intro j u hu
  have hj : j < l.length * 2 := by rw [← flatP_length]; exact (List.getElem?_eq_some_iff.1 hu).1
  obtain ⟨k, hk⟩ : ∃ k, j = k * 2 ∨ j = k * 2 + 1 := ⟨j / 2, by omega⟩
  have hkl : k < l.length := by omega
  obtain ⟨f0, f1⟩ := flatP_get l k hkl
  obtain ⟨c0, c1⟩ := hc k hkl
  rcases hk with rfl | rfl
  · rw [f0] at hu; injection hu with hu; rw [c0, hu]
  · rw [f1] at hu; injection hu with hu; rw [c1, hu]
theorem flat_take (l : List PairI) (r : Nat) : flatP (l.take r) = (flatP l).take (r * 2) := by
  induction l generalizing r with
  | nil => simp [flatP]
  | cons x l ih =>
    cases r with
    | zero => simp [flatP]
    | succ r =>
      have e : flatP (x :: l) = x.cells ++ flatP l := rfl
      have e2 : flatP ((x :: l).take (r + 1)) = x.cells ++ flatP (l.take r) := rfl
      rw [e, e2, ih, show (r + 1) * 2 = r * 2 + 2 by omega, List.take_append]
      have : x.cells.length = 2 := rfl
      rw [List.take_of_length_le (l := x.cells) (by omega), this, Nat.add_sub_cancel]
theorem flat_drop (l : List PairI) (r : Nat) : flatP (l.drop r) = (flatP l).drop (r * 2) := by
  induction l generalizing r with
  | nil => simp [flatP]
  | cons x l ih =>
    cases r with
    | zero => simp [flatP]
    | succ r =>
      have e : flatP (x :: l) = x.cells ++ flatP l := rfl
      rw [e, List.drop_succ_cons, ih, show (r + 1) * 2 = r * 2 + 2 by omega, List.drop_append]
      have : x.cells.length = 2 := rfl
      rw [List.drop_of_length_le (l := x.cells) (by omega), this, Nat.add_sub_cancel, List.nil_append]

def putK (s : ByteArray) (k : Int) (l : List PairI) : List PairI := if hasK s l then l.set (rk s l) ⟨s, k⟩ else l.take (rk s l) ++ ⟨s, k⟩ :: l.drop (rk s l)

/-- What a Put leaves. -/
def PutDone (g : Nat) (R : Option Nat) (w : World) (l' : List PairI) (w' : World) : Prop :=
  ∃ R', IdxAt w' g R' l' ∧ (R' = R ∨ ∃ b, R' = some b ∧ w.heap.size ≤ b) ∧ Keep (fun q => q = g ∨ R = some q) w w'

theorem own_idx {w w1 w2 : World} {g : Nat} {R : Option Nat} {l l' : List PairI} {v : Value} (hi : IdxAt w g R l) (hx : Ext w w1) (hlt : 0 < l'.length) (hO : Own w1.heap.size 76 2 l'.length (flatP l') v w2) (hx2 : Ext w1 w2) : PutDone g R w l' (w2.setCell ⟨g, 0, none⟩ v) := by
  obtain ⟨_, hl, g2, cap, cs, rfl, h2, h3, h4, h5, h6, h7⟩ := hO
  obtain ⟨c0, hb, _, _, _, _⟩ := hi.ex
  have hg := hb.lt
  have hg1 : g < w1.heap.size := Nat.lt_of_lt_of_le hg hx.size
  have hgx := (hb.ext hx).ext hx2
  refine ⟨some g2, ⟨cap, ?_, h4, h5, (fun h => by cases h), fun b hb' => ?_⟩, .inr ⟨g2, rfl, Nat.le_trans hx.size h2⟩, ?_⟩
  · exact hgx.set 0 _
  · injection hb' with hb'
    subst hb'
    refine ⟨by omega, cs, h3.far (by show g2 ≠ g; omega) _, by omega, fun k hk => ?_⟩
    obtain ⟨f0, f1⟩ := flatP_get l' k hk
    rw [← h7, List.getElem?_take] at f0 f1
    rw [if_pos (by omega)] at f0 f1
    exact ⟨by simpa using f0, by simpa using f1⟩
  · exact ((Keep.of_ext hx).ext hx2).setCell (.inl (.inl rfl)) _

set_option maxRecDepth 100000 in
set_option maxHeartbeats 4000000 in
theorem put_new (w : World) (g b : Nat) (l : List PairI) (s : ByteArray) (k : Int) (hi : IdxAt w g (some b) l) (hl : l.length < 1000000) (hs : Srt l) (hn : hasK s l = false) :
    Calls Try.prog 13 #[.pointer (some ⟨g, 0, none⟩), .string s, .int .i64 k] w (fun e w' => e = .returned (.bool true) ∧ PutDone g (some b) w (l.take (rk s l) ++ ⟨s, k⟩ :: l.drop (rk s l)) w') := by
  have HF := hid (find_c w g _ l s hi (by omega) hs)
  rw [hn] at HF
  have hrl := (rk_split hs s).1
  generalize rk s l = r at HF hrl ⊢
  have Hi := hid hi
  obtain ⟨c, h1, h2, h3, h4, h5⟩ := hi.ex
  obtain ⟨hne, cs, hb, hcs, hcell⟩ := h5 b rfl
  obtain ⟨i0, hi0, hz0, hz1, hz2⟩ := info_parts pair_info
  have cg : w.cell? ⟨g, 0, none⟩ = some (.slice (some ⟨b, 0, none⟩) l.length c) := h1.cell rfl
  have fg := h1.frozen 0
  have lg := h1.lt
  have lb := hb.lt
  have HC : Hid (∀ j u, (flatP l)[j]? = some u → w.cell? ⟨b, j, none⟩ = some u) := flat_cells fun k hk => ⟨hb.cell (hcell k hk).1, hb.cell (hcell k hk).2⟩
  clear h1 h4 h5 hb hcs hcell hi hs
  unfold maxLen at h3
  go_enter Try.func13, Try.ntmps13
  go_wp2_with (go_at_call 37; refine (HF.out).mono ?_; rintro e w1 ⟨rfl, hx⟩; have cg1 := hx.cell cg; have HX := hid hx; have lg1 := Nat.lt_of_lt_of_le lg hx.size; have lb1 := Nat.lt_of_lt_of_le lb hx.size; have fg1 := (hx.ruleF g 0 none lg).trans fg; clear hx)
  have HS : Hid (∀ W, Ext w1 W → Src Try.prog 2 72 (.slice (if c = r then some ⟨b, 0, none⟩ else some ⟨b, r * 2, none⟩) (l.length - r) (c - r)) (l.length - r) (flatP (l.drop r)) W) := fun W hW => by
    by_cases hcr : c = r
    · rw [if_pos hcr]
      refine Src.ofSlice W Try.underlying72 _ _ _ _ (by rw [flatP_length, List.length_drop]) (fun j u hu => ?_) (flatP_one _)
      have := (List.getElem?_eq_some_iff.1 hu).1
      rw [flatP_length, List.length_drop] at this
      omega
    · rw [if_neg hcr]
      refine Src.ofSlice W Try.underlying72 _ _ _ _ (by rw [flatP_length, List.length_drop]) (fun j u hu => ?_) (flatP_one _)
      rw [Addr.add_lit]
      refine hW.cell (HX.out.cell (HC.out (r * 2 + j) u ?_))
      rw [flat_drop, List.getElem?_drop] at hu
      exact hu
  have hr0 : (0 : Int) ≤ (r : Int) := Int.natCast_nonneg _
  refine wp_region_last (Rel.firm w1.heap.size ((r + 1) * 2) ((flatP (l.take r) ++ [.string s, .int .i64 k]) ++ flatP (l.drop r))) (pre := ?pre) (z := ?z) ?hpre ?hz (firm_steady w1 _ _) (by kernel_rfl) (by kernel_rfl) (by kernel_rfl) (by kernel_rfl) ?_
  case hpre => (simp only [List.dropLast_cons_cons, List.dropLast_singleton]; first | done | exact rfl)
  case hz => (simp only [List.getLast?_cons_cons, List.getLast?_singleton]; first | done | exact rfl)
  repeat (first
    | (refine AWq.val rfl rfl rfl rfl (fun K hK => ?_); go_big_quiet_op; refine hK _ ?_; clear hK K)
    | (refine AWq.skip rfl rfl rfl ?_; simp only [Act.put, List.setIfInBounds_toArray, List.set_cons_succ, List.set_cons_zero])
    | (refine AWq.opV (Own w1.heap.size 76 2 1 [.string s, .int .i64 k]) (fun v => Own.near (by omega) v) rfl rfl rfl rfl (fun wc hc => ?_) ?_; (· (go_simp; dsimp only [Gives]; exact ⟨Own.new hc.size _ 2 1 #[.string s, .int .i64 k] (by unfold maxLen; omega) rfl, Firm.ofExt _ _ (Ext.alloc _ _)⟩)))
    | (refine AWq.opQ (Own w1.heap.size 76 2 (r + 1) (flatP (l.take r) ++ [.string s, .int .i64 k])) (fun v => Own.near (Nat.le_refl _) v) rfl (fun a wc hc hl => ⟨rfl, ?_⟩) ?_; (· (have e33 : a.tmps.getD 33 undef = .slice (some ⟨b, 0, none⟩) r r := hl 33 (of_decide_eq_true (by kernel_rfl)); have e37 : Own w1.heap.size 76 2 1 [.string s, .int .i64 k] (a.tmps.getD 37 undef) wc := hl 37 (of_decide_eq_true (by kernel_rfl)); obtain ⟨v', w', hr', hO, hE⟩ := append_grows (P := Try.prog) (ty := 72) Try.underlying72 hi0 hz0 hz1 hz2 rfl (hc.size) (base := some ⟨b, 0, none⟩) (n := r) (c := r) (olds := flatP (l.take r)) (by rw [flatP_length, List.length_take, Nat.min_eq_left hrl]) (fun b' hb' j u hu => by { injection hb' with hb'; subst hb'; rw [Addr.add_lit, Nat.zero_add]; refine hc.cell (HX.out.cell (HC.out j u ?_)); rw [flat_take, List.getElem?_take] at hu; split at hu; exact hu; cases hu }) (fun h => by cases h) (e37.src Try.underlying72 (by simp [Value.oneCell'])) (by omega) (by unfold maxLen; omega) (by omega); exact gives_append (s := .tmp 33) (x := .tmp 37) rfl e33 rfl hr' ⟨hO, Firm.ofExt _ _ hE⟩)))
    | (refine AWq.opQ (Own w1.heap.size 76 2 (r + 1 + (l.length - r)) ((flatP (l.take r) ++ [.string s, .int .i64 k]) ++ flatP (l.drop r))) (fun v => Own.whole v) rfl (fun a wc hc hl => ⟨rfl, ?_⟩) ?_; (· (have e44 : a.tmps.getD 44 undef = .slice (if c = r then some ⟨b, 0, none⟩ else some ⟨b, r * 2, none⟩) (l.length - r) (c - r) := hl 44 (of_decide_eq_true (by kernel_rfl)); have e38 : Own w1.heap.size 76 2 (r + 1) (flatP (l.take r) ++ [.string s, .int .i64 k]) (a.tmps.getD 38 undef) wc := hl 38 (of_decide_eq_true (by kernel_rfl)); obtain ⟨v', w', hr', hO, hE⟩ := append_own (P := Try.prog) (ty := 72) Try.underlying72 hi0 hz0 hz1 hz2 rfl e38 rfl (HS.out wc hc) (by unfold maxLen; omega) (by omega); exact gives_append (s := .tmp 38) (x := .tmp 44) rfl rfl e44 hr' ⟨hO, hE⟩))))
  refine AWq.last rfl rfl rfl (fun w2 h2 => ?_)
  simp only [closeAny, Act.put, List.setIfInBounds_toArray, List.set_cons_succ, List.set_cons_zero]
  intro v hO _ _ _ _
  have HO := hid hO
  have H2 := hid h2
  obtain ⟨g2, cap, rfl, _, _, _⟩ := hO.cells
  have cg2 := h2.cell cg1
  have fg2 := (h2.ruleF g 0 none lg1).trans fg1
  clear hO h2
  have e1 : Hid ((l.take r ++ ⟨s, k⟩ :: l.drop r).length = r + 1 + (l.length - r)) := by unfold Hid; simp; omega
  have e2 : Hid (flatP (l.take r ++ ⟨s, k⟩ :: l.drop r) = (flatP (l.take r) ++ [.string s, .int .i64 k]) ++ flatP (l.drop r)) := by
    unfold Hid
    rw [flatP_append, List.append_assoc]; rfl
  go_wp2
  all_goals go_ret
  all_goals exact ⟨rfl, own_idx Hi.out HX.out (by rw [e1.out]; omega) (by rw [e1.out, e2.out]; exact HO.out) H2.out⟩

set_option maxRecDepth 100000 in
set_option maxHeartbeats 4000000 in
theorem put_first (w : World) (g : Nat) (s : ByteArray) (k : Int) (hi : IdxAt w g none []) :
    Calls Try.prog 13 #[.pointer (some ⟨g, 0, none⟩), .string s, .int .i64 k] w (fun e w' => e = .returned (.bool true) ∧ PutDone g none w [⟨s, k⟩] w') := by
  have HF := hid (find_c w g _ [] s hi (by simp) List.Pairwise.nil)
  rw [show rk s [] = 0 from rfl, show hasK s [] = false from rfl] at HF
  have Hi := hid hi
  obtain ⟨c, h1, h2, h3, h4, h5⟩ := hi.ex
  obtain ⟨_, rfl⟩ := h4 rfl
  obtain ⟨i0, hi0, hz0, hz1, hz2⟩ := info_parts pair_info
  have cg : w.cell? ⟨g, 0, none⟩ = some (.slice none 0 0) := h1.cell rfl
  have fg := h1.frozen 0
  have lg := h1.lt
  clear h1 h4 h5 hi
  go_enter Try.func13, Try.ntmps13
  go_wp2_with (go_at_call 37; refine (HF.out).mono ?_; rintro e w1 ⟨rfl, hx⟩; have cg1 := hx.cell cg; have HX := hid hx; have lg1 := Nat.lt_of_lt_of_le lg hx.size; have fg1 := (hx.ruleF g 0 none lg).trans fg; clear hx)
  refine wp_region_last (Rel.firm w1.heap.size 2 [.string s, .int .i64 k]) (pre := ?pre) (z := ?z) ?hpre ?hz (firm_steady w1 _ _) (by kernel_rfl) (by kernel_rfl) (by kernel_rfl) (by kernel_rfl) ?_
  case hpre => (simp only [List.dropLast_cons_cons, List.dropLast_singleton]; first | done | exact rfl)
  case hz => (simp only [List.getLast?_cons_cons, List.getLast?_singleton]; first | done | exact rfl)
  repeat (first
    | (refine AWq.val rfl rfl rfl rfl (fun K hK => ?_); go_big_quiet_op; refine hK _ ?_; clear hK K)
    | (refine AWq.skip rfl rfl rfl ?_; simp only [Act.put, List.setIfInBounds_toArray, List.set_cons_succ, List.set_cons_zero])
    | (refine AWq.opV (Own w1.heap.size 76 2 1 [.string s, .int .i64 k]) (fun v => Own.near (by omega) v) rfl rfl rfl rfl (fun wc hc => ?_) ?_; (· (go_simp; dsimp only [Gives]; exact ⟨Own.new hc.size _ 2 1 #[.string s, .int .i64 k] (by unfold maxLen; omega) rfl, Firm.ofExt _ _ (Ext.alloc _ _)⟩)))
    | (refine AWq.opQ (Own w1.heap.size 76 2 1 [.string s, .int .i64 k]) (fun v => Own.near (by omega) v) rfl (fun a wc hc hl => ⟨rfl, ?_⟩) ?_; (· (have e33 : a.tmps.getD 33 undef = .slice none 0 0 := hl 33 (of_decide_eq_true (by kernel_rfl)); have e37 : Own w1.heap.size 76 2 1 [.string s, .int .i64 k] (a.tmps.getD 37 undef) wc := hl 37 (of_decide_eq_true (by kernel_rfl)); obtain ⟨v', w', hr', hO, hE⟩ := append_grows (P := Try.prog) (ty := 72) Try.underlying72 hi0 hz0 hz1 hz2 rfl (hc.size) (base := none) (n := 0) (c := 0) (olds := []) rfl (fun b' hb' => by cases hb') (fun h => rfl) (e37.src Try.underlying72 (by simp [Value.oneCell'])) (by omega) (by unfold maxLen; omega) (by omega); exact gives_append (s := .tmp 33) (x := .tmp 37) rfl e33 rfl hr' ⟨hO, Firm.ofExt _ _ hE⟩)))
    | (refine AWq.opQ (Own w1.heap.size 76 2 1 [.string s, .int .i64 k]) (fun v => Own.near (by omega) v) rfl (fun a wc hc hl => ⟨rfl, ?_⟩) ?_; (· (have e44 : a.tmps.getD 44 undef = .slice none 0 0 := hl 44 (of_decide_eq_true (by kernel_rfl)); have e38 : Own w1.heap.size 76 2 1 [.string s, .int .i64 k] (a.tmps.getD 38 undef) wc := hl 38 (of_decide_eq_true (by kernel_rfl)); obtain ⟨v', w', hr', hO, hE⟩ := append_own (P := Try.prog) (ty := 72) Try.underlying72 hi0 hz0 hz1 hz2 rfl e38 rfl (Src.ofNil wc Try.underlying72 0) (by unfold maxLen; omega) (by omega); rw [List.append_nil] at hO hE; exact gives_append (s := .tmp 38) (x := .tmp 44) rfl rfl e44 hr' ⟨hO, hE⟩))))
  refine AWq.last rfl rfl rfl (fun w2 h2 => ?_)
  simp only [closeAny, Act.put, List.setIfInBounds_toArray, List.set_cons_succ, List.set_cons_zero]
  intro v hO _ _ _ _
  have HO := hid hO
  have H2 := hid h2
  obtain ⟨g2, cap, rfl, _, _, _⟩ := hO.cells
  have cg2 := h2.cell cg1
  have fg2 := (h2.ruleF g 0 none lg1).trans fg1
  clear hO h2
  go_wp2
  all_goals go_ret
  all_goals exact ⟨rfl, own_idx Hi.out HX.out (l' := [⟨s, k⟩]) (by simp) HO.out H2.out⟩

set_option maxRecDepth 100000 in
set_option maxHeartbeats 4000000 in
theorem put_set (w : World) (g : Nat) (R : Option Nat) (l : List PairI) (s : ByteArray) (k : Int) (hi : IdxAt w g R l) (hl : l.length < 1000000) (hs : Srt l) (hn : hasK s l = true) :
    Calls Try.prog 13 #[.pointer (some ⟨g, 0, none⟩), .string s, .int .i64 k] w (fun e w' => e = .returned (.bool false) ∧ PutDone g R w (l.set (rk s l) ⟨s, k⟩) w') := by
  have HF := hid (find_c w g _ l s hi (by omega) hs)
  rw [hn] at HF
  have hk : ∃ h : rk s l < l.length, l[rk s l].name = s := by
    unfold hasK at hn
    cases hq : l[rk s l]? with
    | none => rw [hq] at hn; cases hn
    | some p =>
      rw [hq] at hn
      obtain ⟨h, rfl⟩ := List.getElem?_eq_some_iff.1 hq
      exact ⟨h, by simpa using hn⟩
  generalize rk s l = r at HF hk ⊢
  obtain ⟨hr, hname⟩ := hk
  have Hi := hid hi
  obtain ⟨c, h1, h2, h3, h4, h5⟩ := hi.ex
  obtain ⟨b, rfl⟩ : ∃ b, R = some b := by
    cases R with
    | none => have := (h4 rfl).1; subst this; simp at hr
    | some b => exact ⟨b, rfl⟩
  obtain ⟨hne, cs, hb, hcs, hcell⟩ := h5 b rfl
  have cg : w.cell? ⟨g, 0, none⟩ = some (.slice (some ⟨b, 0, none⟩) l.length c) := h1.cell rfl
  have c1 := hb.cell (hcell r hr).2
  have f1 := hb.frozen (r * 2 + 1)
  have lb := hb.lt
  have Hh := hid hcell
  have H1 := hid h1
  have Hb := hid hb
  clear h1 h4 h5 hb hcell hi hs
  unfold maxLen at h3
  go_enter Try.func13, Try.ntmps13
  go_wp2_with (go_at_call 37; refine (HF.out).mono ?_; rintro e w1 ⟨rfl, hx⟩; have cg1 := hx.cell cg; have c11 := hx.cell c1; have f11 := (hx.ruleF b (r * 2 + 1) none lb).trans f1; have HX := hid hx; clear hx)
  go_ret
  refine ⟨rfl, some b, ⟨c, ?_, by rw [List.length_set]; exact h2, by unfold maxLen; exact h3, (fun h => by cases h), fun b' hb' => ?_⟩, .inl rfl, (Keep.of_ext HX.out).setCell (.inl (.inr rfl)) _⟩
  · rw [List.length_set]
    exact (H1.out.ext HX.out).far (p := ⟨b, r * 2 + 1, none⟩) (by show g ≠ b; omega) _
  · injection hb' with hb'
    subst hb'
    refine ⟨hne, _, (Hb.out.ext HX.out).set _ _, by simpa using hcs, fun q hq => ?_⟩
    rw [List.length_set] at hq
    obtain ⟨q0, q1⟩ := Hh.out q hq
    have hsz : r * 2 + 1 < cs.size := by omega
    by_cases hqr : r = q
    · subst hqr
      refine ⟨?_, ?_⟩
      · rw [Array.getElem?_setIfInBounds_ne (by omega), q0]
        simp [hname]
      · rw [Array.getElem?_setIfInBounds_self_of_lt hsz]
        simp
    · refine ⟨?_, ?_⟩
      · rw [Array.getElem?_setIfInBounds_ne (by omega), q0]
        simp [List.getElem_set_ne hqr]
      · rw [Array.getElem?_setIfInBounds_ne (by omega), q1]
        simp [List.getElem_set_ne hqr]

theorem put_c (w : World) (g : Nat) (R : Option Nat) (l : List PairI) (s : ByteArray) (k : Int) (hi : IdxAt w g R l) (hl : l.length < 1000000) (hs : Srt l) :
    Calls Try.prog 13 #[.pointer (some ⟨g, 0, none⟩), .string s, .int .i64 k] w (fun e w' => e = .returned (.bool !hasK s l) ∧ PutDone g R w (putK s k l) w') := by
  unfold putK
  cases hn : hasK s l with
  | true => exact put_set w g R l s k hi hl hs hn
  | false =>
    cases R with
    | none =>
      obtain ⟨_, _, _, _, h4, _⟩ := hi.ex
      obtain ⟨rfl, _⟩ := h4 rfl
      exact put_first w g s k hi
    | some b => exact put_new w g b l s k hi hl hs hn
end Go.Proofs.Ytfoafookodldfaa
