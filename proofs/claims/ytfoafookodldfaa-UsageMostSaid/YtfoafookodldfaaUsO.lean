/-
  Package usage: Most.
-/
import Derived.Test.YtfoafookodldfaaUsL
import Derived.Laws.ResultCell
namespace Go.Proofs.Ytfoafookodldfaa
set_option linter.unusedSimpArgs false
set_option linter.unusedVariables false
open Go.RowKit

/-- of the leaves from a on, below b, the first one of the greatest -/
def IsBest (l : List LeafI) (a b m : Nat) : Prop := a ≤ m ∧ m < b ∧ b ≤ l.length ∧ (∀ i x y, a ≤ i → i < m → l[i]? = some x → l[m]? = some y → x.data.size < y.data.size) ∧ (∀ i x y, m ≤ i → i < b → l[i]? = some x → l[m]? = some y → x.data.size ≤ y.data.size)
theorem IsBest.unique {l : List LeafI} {a b m m' : Nat} (h : IsBest l a b m) (h' : IsBest l a b m') : m = m' := by
  obtain ⟨h1, h2, h3, h4, h5⟩ := h
  obtain ⟨k1, k2, k3, k4, k5⟩ := h'
  have e1 : l[m]? = some l[m] := List.getElem?_eq_getElem (by omega)
  have e2 : l[m']? = some l[m'] := List.getElem?_eq_getElem (by omega)
  rcases Nat.lt_trichotomy m m' with h | h | h
  · have := k4 m _ _ h1 h e1 e2
    have := h5 m' _ _ (by omega) k2 e2 e1
    omega
  · exact h
  · have := h4 m' _ _ k1 h e2 e1
    have := k5 m _ _ (by omega) h2 e1 e2
    omega
/-- one more at the end -/
theorem IsBest.first {l : List LeafI} {k : Nat} (h : k < l.length) : IsBest l k (k + 1) k := ⟨Nat.le_refl _, by omega, by omega, fun i x y h1 h2 => by omega, fun i x y h1 h2 h3 h4 => by
  obtain rfl : i = k := by omega
  rw [h3] at h4; injection h4 with h4; rw [h4]; exact Nat.le_refl _⟩
theorem IsBest.keepR {l : List LeafI} {a k m : Nat} {x y : LeafI} (h : IsBest l a k m) (hx : l[k]? = some x) (hy : l[m]? = some y) (hs : x.data.size ≤ y.data.size) : IsBest l a (k + 1) m := by
  obtain ⟨h1, h2, h3, h4, h5⟩ := h
  have hk := (List.getElem?_eq_some_iff.1 hx).1
  refine ⟨h1, by omega, by omega, h4, fun i x' y' g1 g2 g3 g4 => ?_⟩
  by_cases hik : i = k
  · subst hik
    rw [hx] at g3; injection g3 with g3; subst g3
    rw [hy] at g4; injection g4 with g4; subst g4
    exact hs
  · exact h5 i x' y' g1 (by omega) g3 g4
theorem IsBest.takeR {l : List LeafI} {a k m : Nat} {x y : LeafI} (h : IsBest l a k m) (hx : l[k]? = some x) (hy : l[m]? = some y) (hs : y.data.size < x.data.size) : IsBest l a (k + 1) k := by
  obtain ⟨h1, h2, h3, h4, h5⟩ := h
  have hk := (List.getElem?_eq_some_iff.1 hx).1
  refine ⟨by omega, by omega, by omega, fun i x' y' g1 g2 g3 g4 => ?_, fun i x' y' g1 g2 g3 g4 => ?_⟩
  · rw [hx] at g4; injection g4 with g4; subst g4
    rcases Nat.lt_or_ge i m with hlt | hge
    · exact Nat.lt_trans (h4 i x' y g1 hlt g3 hy) hs
    · exact Nat.lt_of_le_of_lt (h5 i x' y hge g2 g3 hy) hs
  · obtain rfl : i = k := by omega
    rw [g3] at g4; injection g4 with g4; rw [g4]; exact Nat.le_refl _
/-- one more at the beginning -/
theorem IsBest.keepL {l : List LeafI} {j b m : Nat} {x y : LeafI} (h : IsBest l (j + 1) b m) (hx : l[j]? = some x) (hy : l[m]? = some y) (hs : x.data.size < y.data.size) : IsBest l j b m := by
  obtain ⟨h1, h2, h3, h4, h5⟩ := h
  refine ⟨by omega, h2, h3, fun i x' y' g1 g2 g3 g4 => ?_, h5⟩
  by_cases hij : i = j
  · subst hij
    rw [hx] at g3; injection g3 with g3; subst g3
    rw [hy] at g4; injection g4 with g4; subst g4
    exact hs
  · exact h4 i x' y' (by omega) g2 g3 g4
theorem IsBest.takeL {l : List LeafI} {j b m : Nat} {x y : LeafI} (h : IsBest l (j + 1) b m) (hx : l[j]? = some x) (hy : l[m]? = some y) (hs : y.data.size ≤ x.data.size) : IsBest l j b j := by
  obtain ⟨h1, h2, h3, h4, h5⟩ := h
  refine ⟨Nat.le_refl _, by omega, h3, fun i x' y' g1 g2 => by omega, fun i x' y' g1 g2 g3 g4 => ?_⟩
  rw [hx] at g4; injection g4 with g4; subst g4
  by_cases hij : i = j
  · subst hij
    rw [hx] at g3; injection g3 with g3; subst g3; exact Nat.le_refl _
  · rcases Nat.lt_or_ge i m with hlt | hge
    · exact Nat.le_trans (Nat.le_of_lt (h4 i x' y (by omega) hlt g3 hy)) hs
    · exact Nat.le_trans (h5 i x' y hge g2 g3 hy) hs

theorem results_cell_row_tmp {P : Program} {fn : Func} {p u : Tmp} {ty : TypeId} (h : fn.results = #[.cell p ty, .tmp u]) (tmps : Array Value) (w : World) (g : Nat) (t : TypeId) (cs : Array Value) (fr : Nat × Nat) (d : TypeDesc)
    (hp : tmps.getD p undef = .pointer (some ⟨g, 0, none⟩)) (hg : w.heap[g]? = some (.cells cs t fr))
    (hu : P.underlying ty = some d) (hd : (match d with | .struct _ | .array _ _ => true | _ => false) = true) (hi : (P.info? ty).map (·.size) = some cs.size) :
    (results fn tmps).run P w = .ok (.tuple #[.agg cs, tmps.getD u undef]) w := by
  rw [results_cell_tmp h, hp]
  simp [asAddr, run_loadVar_row w g t ty cs fr d hg hu hd hi]

def leaf0 : LeafI := ⟨⟨#[]⟩, ⟨#[]⟩, 0, 0, ⟨#[]⟩⟩
/-- the leaf that Most tells -/
def MostIs (l : List LeafI) (k : Nat) (y : LeafI) : Prop := (k = 0 ∧ y = leaf0) ∨ ∃ m, l[m]? = some y ∧ IsBest l 0 k m


set_option maxRecDepth 100000 in
set_option maxHeartbeats 2000000 in
theorem most_c (w : World) (v : Value) (l : List LeafI) (h : Sl w 5 v (Leaves l)) (hs : Slim l) : Calls Try.prog 35 #[v] w (fun e w' => (∃ y, MostIs l l.length y ∧ e = .returned (.tuple #[.agg y.code, .bool (decide (0 < l.length))])) ∧ Ext w w') := by
  obtain ⟨A, c, rfl, h1, h2, h3⟩ := sl_leaf h
  obtain ⟨s1, s2⟩ := hs
  clear h
  unfold maxLen at h2
  go_enter Try.func35, Try.ntmps35
  go_wp2_with fail
  have hr0 : Blk ((w.alloc (.cells #[.string ⟨#[]⟩, .string ⟨#[]⟩, .int .i64 0, .int .i64 0, .string ⟨#[]⟩] 66)).alloc (.cells #[.string ⟨#[]⟩, .string ⟨#[]⟩, .int .i64 0, .int .i64 0, .string ⟨#[]⟩] 66)) w.heap.size 66 leaf0.code := (Blk.new w _ _).alloc _
  have hg0 : Blk ((w.alloc (.cells #[.string ⟨#[]⟩, .string ⟨#[]⟩, .int .i64 0, .int .i64 0, .string ⟨#[]⟩] 66)).alloc (.cells #[.string ⟨#[]⟩, .string ⟨#[]⟩, .int .i64 0, .int .i64 0, .string ⟨#[]⟩] 66)) (w.heap.size + 1) 66 leaf0.code := by
    have := Blk.new (w.alloc (.cells #[.string ⟨#[]⟩, .string ⟨#[]⟩, .int .i64 0, .int .i64 0, .string ⟨#[]⟩] 66)) 66 leaf0.code
    simp only [World.size_alloc] at this
    exact this
  have hE0 : Ext w ((w.alloc (.cells #[.string ⟨#[]⟩, .string ⟨#[]⟩, .int .i64 0, .int .i64 0, .string ⟨#[]⟩] 66)).alloc (.cells #[.string ⟨#[]⟩, .string ⟨#[]⟩, .int .i64 0, .int .i64 0, .string ⟨#[]⟩] 66)) := ((Ext.refl w).alloc' _).alloc' _
  generalize (w.alloc (.cells #[.string ⟨#[]⟩, .string ⟨#[]⟩, .int .i64 0, .int .i64 0, .string ⟨#[]⟩] 66)).alloc (.cells #[.string ⟨#[]⟩, .string ⟨#[]⟩, .int .i64 0, .int .i64 0, .string ⟨#[]⟩] 66) = W0 at hr0 hg0 hE0 ⊢
  obtain ⟨r, hrr⟩ : ∃ r, r = w.heap.size := ⟨_, rfl⟩
  obtain ⟨g, hgg⟩ : ∃ g, g = w.heap.size + 1 := ⟨_, rfl⟩
  rw [← hgg, ← hrr]
  rw [← hrr] at hr0
  rw [← hgg] at hg0
  have n2 : r ≠ g := by omega
  have n3 : w.heap.size ≤ g := by omega
  have n4 : w.heap.size ≤ r := by omega
  clear hrr hgg
  go_loopw [9] (fun i wr => ∃ k : Nat, k ≤ l.length ∧ i = .int .i64 k ∧ Ext w wr ∧ Blk wr r 66 leaf0.code ∧ ∃ y : LeafI, Blk wr g 66 y.code ∧ MostIs l k y) (fun i _ => l.length - (intOf i).toNat)
  case atStart => exact ⟨0, by omega, rfl, hE0, hr0, leaf0, hg0, .inl ⟨rfl, rfl⟩⟩
  case round =>
    obtain ⟨k, hk, rfl, hE, hr, y, hg, hM⟩ := hrel
    have g0 := hg.cell (i := 0) (v := .string y.name) rfl
    have g1 := hg.cell (i := 1) (v := .string y.path) rfl
    have g2 := hg.cell (i := 2) (v := .int .i64 y.by_) rfl
    have g3 := hg.cell (i := 3) (v := .int .i64 y.n) rfl
    have g4 := hg.cell (i := 4) (v := .string y.data) rfl
    by_cases hlt : k < l.length
    · obtain ⟨b, o, rfl, lb, hcell⟩ := h3 (by omega)
      obtain ⟨c0, c1, c2, c3, c4⟩ := hcell k hlt
      have e0 := hE.cell c0
      have e1 := hE.cell c1
      have e2 := hE.cell c2
      have e3 := hE.cell c3
      have e4 := hE.cell c4
      have lb1 := Nat.lt_of_lt_of_le lb hE.size
      have HX : Hid (l[k]? = some l[k]) := List.getElem?_eq_getElem hlt
      have z0 := hg.frozen 0
      have z1 := hg.frozen 1
      have z2 := hg.frozen 2
      have z3 := hg.frozen 3
      have z4 := hg.frozen 4
      have lg := hg.lt
      have HE := hid hE
      have HR := hid hr
      have HG := hid hg
      clear hcell h3 hE hr hg hE0 hr0 hg0 c0 c1 c2 c3 c4 s2
      by_cases hk0 : k = 0
      · have HF : Hid (IsBest l 0 (k + 1) k) := by subst hk0; exact IsBest.first hlt
        have d0 : ((k : Int) == 0) = true := by simp [hk0]
        generalize l[k] = x at *
        clear hk0 hM
        go_wp2_with fail
        go_roundw
        case rel =>
          refine ⟨k + 1, by omega, by go_num, ?_, ?_, x, ?_, ?_⟩
          · exact (((((HE.out.setCell' (p := ⟨g, 0, none⟩) n3 _).setCell' (p := ⟨g, 1, none⟩) n3 _).setCell' (p := ⟨g, 2, none⟩) n3 _).setCell' (p := ⟨g, 3, none⟩) n3 _).setCell' (p := ⟨g, 4, none⟩) n3 _).alloc' _
          · exact (((((HR.out.far (p := ⟨g, 0, none⟩) n2 _).far (p := ⟨g, 1, none⟩) n2 _).far (p := ⟨g, 2, none⟩) n2 _).far (p := ⟨g, 3, none⟩) n2 _).far (p := ⟨g, 4, none⟩) n2 _).alloc _
          · exact (((((HG.out.set 0 _).set 1 _).set 2 _).set 3 _).set 4 _).alloc _
          · exact .inr ⟨k, HX.out, HF.out⟩
        case measure => simp [intOf]; omega
      · have d0 : ((k : Int) == 0) = false := by simp; omega
        have HM : Hid (∃ m, l[m]? = some y ∧ IsBest l 0 k m) := by
          rcases hM with ⟨h, _⟩ | h
          · exact absurd h hk0
          · exact h
        generalize l[k] = x at *
        clear hk0 hM
        by_cases hsz : y.data.size < x.data.size
        · have d1 : decide (y.data.size < x.data.size) = true := decide_eq_true hsz
          have HF : Hid (IsBest l 0 (k + 1) k) := by
            obtain ⟨m, hm1, hm2⟩ := HM.out
            exact hm2.takeR HX.out hm1 hsz
          clear hsz
          go_wp2_with fail
          go_roundw
          case rel =>
            refine ⟨k + 1, by omega, by go_num, ?_, ?_, x, ?_, ?_⟩
            · exact (((((HE.out.setCell' (p := ⟨g, 0, none⟩) n3 _).setCell' (p := ⟨g, 1, none⟩) n3 _).setCell' (p := ⟨g, 2, none⟩) n3 _).setCell' (p := ⟨g, 3, none⟩) n3 _).setCell' (p := ⟨g, 4, none⟩) n3 _).alloc' _
            · exact (((((HR.out.far (p := ⟨g, 0, none⟩) n2 _).far (p := ⟨g, 1, none⟩) n2 _).far (p := ⟨g, 2, none⟩) n2 _).far (p := ⟨g, 3, none⟩) n2 _).far (p := ⟨g, 4, none⟩) n2 _).alloc _
            · exact (((((HG.out.set 0 _).set 1 _).set 2 _).set 3 _).set 4 _).alloc _
            · exact .inr ⟨k, HX.out, HF.out⟩
          case measure => simp [intOf]; omega
        · have d1 : decide (y.data.size < x.data.size) = false := decide_eq_false hsz
          have HF : Hid (MostIs l (k + 1) y) := by
            obtain ⟨m, hm1, hm2⟩ := HM.out
            exact .inr ⟨m, hm1, hm2.keepR HX.out hm1 (by omega)⟩
          clear hsz
          go_wp2_with fail
          go_roundw
          case rel => exact ⟨k + 1, by omega, by go_num, HE.out.alloc' _, HR.out.alloc _, y, HG.out.alloc _, HF.out⟩
          case measure => simp [intOf]; omega
    · obtain rfl : k = l.length := by omega
      have r0 := hr.cell (i := 0) (v := .string ⟨#[]⟩) rfl
      have r1 := hr.cell (i := 1) (v := .string ⟨#[]⟩) rfl
      have r2 := hr.cell (i := 2) (v := .int .i64 0) rfl
      have r3 := hr.cell (i := 3) (v := .int .i64 0) rfl
      have r4 := hr.cell (i := 4) (v := .string ⟨#[]⟩) rfl
      have z0 := hr.frozen 0
      have z1 := hr.frozen 1
      have z2 := hr.frozen 2
      have z3 := hr.frozen 3
      have z4 := hr.frozen 4
      have HE := hid hE
      have HR := hid hr
      have HM := hid hM
      have lg := hg.lt
      have lr := hr.lt
      clear hE hr hg h3 hE0 hr0 hg0 s2 hM
      go_wp2_with fail
      have HF : Hid (Blk (((((wr.setCell ⟨r, 0, none⟩ (.string y.name)).setCell ⟨r, 1, none⟩ (.string y.path)).setCell ⟨r, 2, none⟩ (.int .i64 y.by_)).setCell ⟨r, 3, none⟩ (.int .i64 y.n)).setCell ⟨r, 4, none⟩ (.string y.data)) r 66 y.code) := ((((HR.out.set 0 (.string y.name)).set 1 (.string y.path)).set 2 (.int .i64 y.by_)).set 3 (.int .i64 y.n)).set 4 (.string y.data)
      refine bodyPost_ret (results_cell_row_tmp rfl _ _ r 66 _ (0, 0) _ rfl HF.out Try.underlying66 rfl (show (Try.prog.info? 66).map (·.size) = some 5 by kernel_rfl)) rfl ⟨⟨y, HM.out, rfl⟩, ?_⟩
      exact ((((HE.out.setCell' (p := ⟨r, 0, none⟩) n4 _).setCell' (p := ⟨r, 1, none⟩) n4 _).setCell' (p := ⟨r, 2, none⟩) n4 _).setCell' (p := ⟨r, 3, none⟩) n4 _).setCell' (p := ⟨r, 4, none⟩) n4 _
end Go.Proofs.Ytfoafookodldfaa
