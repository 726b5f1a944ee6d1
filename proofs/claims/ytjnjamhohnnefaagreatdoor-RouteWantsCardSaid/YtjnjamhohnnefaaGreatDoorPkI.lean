/-
  Who is under whom: tree.under, the document's Under; tree.Under.
  TreeMay: plain laws: what is under a replica is within it; rows of filters with one filter set.
-/
import Derived.Test.YtjnjamhohnnefaaGreatDoorPkG
namespace Go.Proofs.YtjnjamhohnnefaaGreatDoor
set_option linter.unusedSimpArgs false
set_option linter.unusedVariables false
open Go.RowKit Go.Sort

theorem climb_add {up : List Int} : ∀ (f g : Nat) (r : Int) (k : Nat), climb up f r = some k → f ≤ g → climb up g r = some k
  | 0, _, _, _, h, _ => by cases h
  | f + 1, 0, _, _, _, h => absurd h (by omega)
  | f + 1, g + 1, r, k, h, hg => by
    rw [climb] at h ⊢
    by_cases h1 : 1 ≤ r ∧ r ≤ up.length
    · rw [if_pos h1] at h ⊢
      by_cases h2 : upAt up r = 0
      · rw [if_pos h2] at h ⊢; exact h
      · rw [if_neg h2] at h ⊢
        cases hc : climb up f (upAt up r) with
        | none => rw [hc] at h; cases h
        | some j => rw [climb_add f g _ j hc (by omega)]; rw [hc] at h; exact h
    · rw [if_neg h1] at h; cases h
theorem climb_in {up : List Int} {f : Nat} {r : Int} {k : Nat} (h : climb up f r = some k) : 1 ≤ r ∧ r ≤ up.length := by
  refine Classical.byContradiction fun hn => ?_
  rw [climb_out hn] at h; cases h
/-- One step up. -/
theorem climb_next {up : List Int} {f : Nat} {r : Int} {k : Nat} (h : climb up (f + 1) r = some k) : (upAt up r = 0 ∧ k = 0) ∨ ∃ j, k = j + 1 ∧ climb up f (upAt up r) = some j := by
  have hin := climb_in h
  rw [climb, if_pos hin] at h
  by_cases h2 : upAt up r = 0
  · rw [if_pos h2] at h; injection h with h; exact .inl ⟨h2, h.symm⟩
  · rw [if_neg h2] at h
    cases hc : climb up f (upAt up r) with
    | none => rw [hc] at h; cases h
    | some j => rw [hc] at h; injection h with h; exact .inr ⟨j, h.symm, rfl⟩
theorem climb_lt {up : List Int} : ∀ (f : Nat) (r : Int) (k : Nat), climb up f r = some k → k < f
  | 0, _, _, h => by cases h
  | f + 1, r, k, h => by
    rcases climb_next h with ⟨_, rfl⟩ | ⟨j, rfl, hj⟩
    · omega
    · have := climb_lt f _ j hj; omega
/-- Is one met on the way up? -/
def onWay (up : List Int) : Nat → Int → Int → Bool
  | 0, r, a => r == a
  | k + 1, r, a => r == a || onWay up k (upAt up r) a
def underB (up : List Int) (r a : Int) : Bool := match climb up (up.length + 1) r with | some k => onWay up k r a | none => false
theorem underB_some {up : List Int} {r a : Int} {k : Nat} (h : climb up (up.length + 1) r = some k) : underB up r a = onWay up k r a := by unfold underB; rw [h]
theorem onWay_here (up : List Int) (k : Nat) (r : Int) : onWay up k r r = true := by cases k <;> simp [onWay]
/-- Where one stands, going up. -/
def Going (up : List Int) (f : Nat) (u : Bool) (r a : Int) : Prop := (r = 0 ∧ u = false) ∨ ∃ k, climb up f r = some k ∧ u = onWay up k r a
theorem Going.next {up : List Int} {f : Nat} {u : Bool} {r a : Int} (h : Going up (f + 1) u r a) (h0 : r ≠ 0) (ha : r ≠ a) : Going up f u (upAt up r) a := by
  rcases h with ⟨h, _⟩ | ⟨k, hk, hu⟩
  · exact absurd h h0
  · rcases climb_next hk with ⟨h2, rfl⟩ | ⟨j, rfl, hj⟩
    · exact .inl ⟨h2, by rw [hu, onWay]; simp [ha]⟩
    · exact .inr ⟨j, hj, by rw [hu, onWay]; simp [ha]⟩
theorem Going.here {up : List Int} {f : Nat} {u : Bool} {a : Int} (h : Going up f u a a) (h0 : a ≠ 0) : u = true := by
  rcases h with ⟨h, _⟩ | ⟨k, _, hu⟩
  · exact absurd h h0
  · rw [hu, onWay_here]
theorem Going.at {up : List Int} {f : Nat} {u : Bool} {r a : Int} (h : Going up f u r a) (h0 : r ≠ 0) : 1 ≤ r ∧ r ≤ up.length := by
  rcases h with ⟨h, _⟩ | ⟨k, hk, _⟩
  · exact absurd h h0
  · exact climb_in hk
/-- How far it is yet. -/
def left (up : List Int) (r : Int) : Nat := match climb up (up.length + 1) r with | some k => k + 1 | none => 0
theorem left_lt {up : List Int} {r : Int} (h : ∃ k, climb up (up.length + 1) r = some k) (h2 : upAt up r = 0 ∨ ∃ k, climb up (up.length + 1) (upAt up r) = some k) : left up (upAt up r) < left up r := by
  obtain ⟨k, hk⟩ := h
  unfold left
  rw [hk]
  rcases climb_next hk with ⟨h3, rfl⟩ | ⟨j, rfl, hj⟩
  · rw [h3, climb_out (by omega)]; exact Nat.zero_lt_one
  · rw [climb_add _ (up.length + 1) _ j hj (by omega)]; exact Nat.lt_succ_self _
theorem Going.full {up : List Int} {u : Bool} {r a : Int} (h : Going up (up.length + 1) u r a) (h0 : r ≠ 0) (ha : r ≠ a) : Going up (up.length + 1) u (upAt up r) a ∧ left up (upAt up r) < left up r := by
  have hn := h.next h0 ha
  have hn' : Going up (up.length + 1) u (upAt up r) a := by
    rcases hn with h | ⟨k, hk, hu⟩
    · exact .inl h
    · exact .inr ⟨k, climb_add _ _ _ _ hk (by omega), hu⟩
  refine ⟨hn', left_lt ?_ ?_⟩
  · rcases h with ⟨h, _⟩ | ⟨k, hk, _⟩
    · exact absurd h h0
    · exact ⟨k, hk⟩
  · rcases hn' with ⟨h, _⟩ | ⟨k, hk, _⟩
    · exact .inl h
    · exact .inr ⟨k, hk⟩
theorem going_start {up : List Int} {r a : Int} (h : ∃ k, climb up (up.length + 1) r = some k) : Going up (up.length + 1) (underB up r a) r a := by
  obtain ⟨k, hk⟩ := h
  exact .inr ⟨k, hk, underB_some hk⟩
set_option maxRecDepth 100000 in
set_option maxHeartbeats 4000000 in
theorem under_c (w : World) (up : List Int) (A AF : Option Addr) (c nF cF : Nat) (r a : Int) (hu : Sl w 1 (.slice A up.length c) (Ints up)) (hl : up.length ≤ 1000) (ha : 1 ≤ a) (hr : ∃ k, climb up (up.length + 1) r = some k) : Calls Tryz.prog 54 #[.agg #[.slice A up.length c, .slice AF nF cF], .int .i64 r, .int .i64 a] w (Ret (.bool (underB up r a)) w) := by
  have HE0 := hid (Ext.alloc w (.cells #[.slice A up.length c, .slice AF nF cF] 25))
  have HB0 := hid (Blk.new w 25 #[.slice A up.length c, .slice AF nF cF])
  have HG := hid (going_start (a := a) hr)
  generalize underB up r a = u at HG ⊢
  clear hr
  obtain ⟨A', c', hv, h1, h2, h3⟩ := hu
  injection hv with hA hn hc
  subst hA hc
  clear hn
  simp only [Ints, List.length_map] at h1 h3
  unfold maxLen at h2
  go_enter Tryz.func54, Tryz.ntmps54
  go_wp2_with fail
  generalize w.alloc (.cells #[.slice A up.length c, .slice AF nF cF] 25) = w0 at HE0 HB0 ⊢
  generalize w.heap.size = g at HB0 ⊢
  go_loopw [1] (fun s1 wr => ∃ r' : Int, s1 = .int .i64 r' ∧ Ext w0 wr ∧ Hid (Going up (up.length + 1) u r' a)) (fun s1 _ => left up (intOf s1))
  case atStart => exact ⟨r, rfl, Ext.refl _, HG.out⟩
  case round =>
    obtain ⟨r', rfl, hE, hg⟩ := hrel
    have HE := hid hE
    by_cases ha' : r' = a
    · subst ha'
      have hu : Hid (u = true) := hg.out.here (by omega)
      have d1 : (r' != r') = false := by simp
      clear hE h3 hg HG
      go_wp2_with fail
      go_ret
      exact ⟨by rw [hu.out]; simp, HE0.out.trans HE.out⟩
    · have d1 : (r' != a) = true := by simp [ha']
      have d2 : (r' == a) = false := by simp [ha']
      by_cases h0 : r' = 0
      · subst h0
        have hu : Hid (u = false) := by
          rcases hg.out with ⟨_, h⟩ | ⟨k, hk, _⟩
          · exact h
          · exact absurd (climb_in hk).1 (by decide)
        clear hE h3 hg HG ha'
        go_wp2_with fail
        go_ret
        exact ⟨by rw [hu.out]; simp_all, HE0.out.trans HE.out⟩
      · have d3 : (r' != 0) = true := by simp [h0]
        obtain ⟨hg2, hlt⟩ := hg.out.full h0 ha'
        obtain ⟨k, hk, hrk, hup⟩ := upAt_get (hg.out.at h0)
        have hup := hup hk
        obtain rfl : r' = (k : Int) + 1 := by omega
        obtain ⟨b, o, rfl, lb, hcell⟩ := h3 (by omega)
        have c0 := (HE0.out.trans hE).cell (hcell k [.int .i64 up[k]] 0 (.int .i64 up[k]) (by simp [hk]) rfl)
        simp only [Nat.mul_one, Nat.add_zero] at c0
        have lbr := Nat.lt_of_lt_of_le lb (HE0.out.trans hE).size
        have hb := HB0.out.ext hE
        have q0 := hb.cell (i := 0) (v := .slice (some ⟨b, o, none⟩) up.length c) rfl
        have ql := hb.lt
        rw [hup] at hg2 hlt
        have HG2 := hid hg2
        have HLt := hid hlt
        clear hcell h3 hup hg hg2 hlt hE hb HG ha' h0 hrk
        generalize up[k] = z at c0 HG2 HLt
        go_wp2_with fail
        go_roundw
        case rel => exact ⟨z, rfl, HE.out, HG2.out⟩
        case measure => exact HLt.out
set_option maxRecDepth 100000 in
set_option maxHeartbeats 4000000 in
theorem runder_c (w : World) (up : List Int) (A : Option Addr) (c : Nat) (r a : Int) (hu : Sl w 1 (.slice A up.length c) (Ints up)) (hl : up.length ≤ 1000) (ha : 1 ≤ a) (hr : ∃ k, climb up (up.length + 1) r = some k) : Calls Tryz.prog 17 #[.slice A up.length c, .int .i64 r, .int .i64 a] w (Ret (.bool (underB up r a)) w) := by
  have HG := hid (going_start (a := a) hr)
  generalize underB up r a = u at HG ⊢
  clear hr
  obtain ⟨A', c', hv, h1, h2, h3⟩ := hu
  injection hv with hA hn hc
  subst hA hc
  clear hn
  simp only [Ints, List.length_map] at h1 h3
  unfold maxLen at h2
  go_enter Tryz.func17, Tryz.ntmps17
  go_wp2_with fail
  go_loopw [1, 7] (fun s1 s7 wr => ∃ (r' : Int) (n : Nat), s1 = .int .i64 r' ∧ s7 = .int .i64 n ∧ n ≤ up.length + 1 ∧ Ext w wr ∧ Hid (Going up (up.length + 1 - n) u r' a)) (fun _ s7 _ => up.length + 1 - (intOf s7).toNat)
  case atStart => exact ⟨r, 0, rfl, rfl, by omega, Ext.refl _, HG.out⟩
  case round =>
    obtain ⟨r', n, rfl, rfl, hn, hE, hg⟩ := hrel
    have HE := hid hE
    by_cases h0 : r' = 0
    · subst h0
      have hu : Hid (u = false) := by
        rcases hg.out with ⟨_, h⟩ | ⟨k, hk, _⟩
        · exact h
        · exact absurd (climb_in hk).1 (by decide)
      clear hE h3 hg HG
      by_cases hlast : n ≤ up.length
      · have d0 : decide ((n : Int) ≤ up.length) = true := decide_eq_true (by omega)
        have d0' : decide (n ≤ up.length) = true := decide_eq_true hlast
        go_wp2_with fail
        go_ret
        exact ⟨by rw [hu.out]; rfl, HE.out⟩
      · have d0 : decide ((n : Int) ≤ up.length) = false := decide_eq_false (by omega)
        have d0' : decide (n ≤ up.length) = false := decide_eq_false hlast
        go_wp2_with fail
        go_ret
        exact ⟨by rw [hu.out]; rfl, HE.out⟩
    · have d3 : (r' != 0) = true := by simp [h0]
      have hlast : n ≤ up.length := by
        refine Classical.byContradiction fun hlast => ?_
        rcases hg.out with ⟨h, _⟩ | ⟨k, hk, _⟩
        · exact h0 h
        · have := climb_lt _ _ _ hk
          omega
      have d0 : decide ((n : Int) ≤ up.length) = true := decide_eq_true (by omega)
      have d0' : decide (n ≤ up.length) = true := decide_eq_true hlast
      by_cases ha' : r' = a
      · subst ha'
        have hu : Hid (u = true) := hg.out.here h0
        have d1 : (r' == r') = true := by simp
        clear hE h3 hg HG h0
        go_wp2_with fail
        go_ret
        exact ⟨by rw [hu.out]; rfl, HE.out⟩
      · have d2 : (r' == a) = false := by simp [ha']
        have hg' := hg.out
        rw [show up.length + 1 - n = (up.length - n) + 1 by omega] at hg'
        have hg2 := hg'.next h0 ha'
        obtain ⟨k, hk, hrk, hup⟩ := upAt_get (hg'.at h0)
        have hup := hup hk
        obtain rfl : r' = (k : Int) + 1 := by omega
        obtain ⟨b, o, rfl, lb, hcell⟩ := h3 (by omega)
        have c0 := hE.cell (hcell k [.int .i64 up[k]] 0 (.int .i64 up[k]) (by simp [hk]) rfl)
        simp only [Nat.mul_one, Nat.add_zero] at c0
        have lbr := Nat.lt_of_lt_of_le lb hE.size
        rw [hup] at hg2
        have HG2 := hid hg2
        clear hcell h3 hup hg hg' hg2 hE HG ha' h0 hrk
        generalize up[k] = z at c0 HG2
        go_wp2_with fail
        go_roundw
        case rel => exact ⟨z, n + 1, rfl, by go_num, by omega, HE.out, by unfold Hid; rw [show up.length + 1 - (n + 1) = up.length - n by omega]; exact HG2.out⟩
        case measure => simp [intOf]; omega
set_option maxRecDepth 100000 in
set_option maxHeartbeats 4000000 in
theorem under1_c (w : World) (up : List Int) (A AF : Option Addr) (c nF cF q q1 : Nat) (r : Int) (hb : Blk w q 25 #[.slice A up.length c, .slice AF nF cF]) (hr : Blk w q1 3 #[.int .i64 r]) (hu : Sl w 1 (.slice A up.length c) (Ints up)) (hl : up.length ≤ 1000) (k : Nat) (hk : ∃ m, climb up (up.length + 1) ((k : Int) + 1) = some m) : Calls Tryz.prog 53 #[.int .i64 ((k : Int) + 1), .pointer (some ⟨q1, 0, none⟩), .pointer (some ⟨q, 0, none⟩)] w (Ret (.bool (decide (1 ≤ r) && underB up ((k : Int) + 1) r)) w) := by
  have HU := fun W (hW : Ext w W) (ha : 1 ≤ r) => hid (under_c W up A AF c nF cF ((k : Int) + 1) r (hu.ext hW) hl ha hk)
  have q0 := hb.cell (i := 0) (v := .slice A up.length c) rfl
  have q1' := hb.cell (i := 1) (v := .slice AF nF cF) rfl
  have ql := hb.lt
  have r0 := hr.cell (i := 0) (v := .int .i64 r) rfl
  have rl := hr.lt
  clear hb hr hu hk
  cases d1 : decide (1 ≤ r) with
  | false =>
    clear HU
    go_enter Tryz.func53, Tryz.ntmps53
    go_wp2_with fail
    go_ret
    exact ⟨rfl, Ext.refl _⟩
  | true =>
    have HU := fun W (hW : Ext w W) => HU W hW (of_decide_eq_true d1)
    go_enter Tryz.func53, Tryz.ntmps53
    go_wp2_with fail
    refine ((HU _ (Ext.refl _)).out).mono ?_
    rintro e w2 ⟨rfl, x2⟩
    go_wp2_with fail
    go_ret
    exact ⟨rfl, x2⟩
/-- The replicas that are under one, itself among them. -/
noncomputable def underT (up : List Int) (Fl : List (List ClauseI)) (r : Int) : List Int := someT up Fl fun i => decide (1 ≤ r) && underB up i r
set_option maxRecDepth 100000 in
set_option maxHeartbeats 4000000 in
theorem some_none (w : World) (up : List Int) (Fl : List (List ClauseI)) (A AF : Option Addr) (c cF : Nat) (fv : FuncId) (caps : Array Value) (h : TreeAt w up Fl A AF c cF) (P : Int → Bool) (e0 : checkT up Fl ≠ 0) : Calls Tryz.prog 48 #[.agg #[.slice A up.length c, .slice AF Fl.length cF], .func (.func fv) #[] caps] w (RetQ (fun v w' => Sl w' 1 v (Ints (someT up Fl P))) w) := by
  have HE0 := hid (Ext.alloc w (.cells #[.slice A up.length c, .slice AF Fl.length cF] 25))
  have HB0 := hid (Blk.new w 25 #[.slice A up.length c, .slice AF Fl.length cF])
  obtain ⟨m, hm⟩ := h.m
  have HCk := fun W (hW : Ext w W) => hid (check_c W up Fl A AF c cF m (hW.cell hm) (h.u.ext hW) h.l (h.f.ext hW) h.L)
  unfold someT
  rw [if_neg e0]
  clear hm h
  generalize checkT up Fl = ck at HCk e0 ⊢
  have d0 : (ck != 0) = true := by simp [e0]
  clear e0
  go_enter Tryz.func48, Tryz.ntmps48
  go_wp2_with fail
  refine ((HCk _ HE0.out).out).mono ?_
  rintro e w1 ⟨rfl, x1⟩
  have X1 := hid (HE0.out.trans x1)
  clear x1 HCk
  go_wp2_with fail
  go_ret
  exact ⟨_, rfl, Sl.nil _ _, X1.out⟩
set_option maxRecDepth 100000 in
set_option maxHeartbeats 4000000 in
theorem underOf_c (w : World) (up : List Int) (Fl : List (List ClauseI)) (A AF : Option Addr) (c cF : Nat) (r : Int) (h : TreeAt w up Fl A AF c cF) : Calls Tryz.prog 26 #[.agg #[.slice A up.length c, .slice AF Fl.length cF], .int .i64 r] w (RetQ (fun v w' => Sl w' 1 v (Ints (underT up Fl r))) w) := by
  have HE0 := hid (Ext.alloc w (.cells #[.slice A up.length c, .slice AF Fl.length cF] 25))
  have HB0 := hid (Blk.new w 25 #[.slice A up.length c, .slice AF Fl.length cF])
  have HSm := fun W (hW : Ext w W) q q1 (hq : Blk W q 25 #[.slice A up.length c, .slice AF Fl.length cF]) (hr : Blk W q1 3 #[.int .i64 r]) => (by
    by_cases e0 : checkT up Fl = 0
    · exact hid (some_under W up Fl A AF c cF q q1 (h.ext hW) (fun i => decide (1 ≤ r) && underB up i r) (fun W' hW' k hk => hid (under1_c W' up A AF c Fl.length cF q q1 r (hq.ext hW') (hr.ext hW') (h.u.ext (hW.trans hW')) h.l k (shape_climb (check_zero e0).2.1 (by omega) (by omega)))))
    · exact hid (some_none W up Fl A AF c cF 53 #[.pointer (some ⟨q1, 0, none⟩), .pointer (some ⟨q, 0, none⟩)] (h.ext hW) (fun i => decide (1 ≤ r) && underB up i r) e0) :
    Hid (Calls Tryz.prog 48 #[.agg #[.slice A up.length c, .slice AF Fl.length cF], .func (.func 53) #[] #[.pointer (some ⟨q1, 0, none⟩), .pointer (some ⟨q, 0, none⟩)]] W (RetQ (fun v w' => Sl w' 1 v (Ints (someT up Fl fun i => decide (1 ≤ r) && underB up i r))) W)))
  unfold underT
  generalize (someT up Fl fun i => decide (1 ≤ r) && underB up i r) = l at HSm ⊢
  clear h
  have HE1 := hid (HE0.out.alloc' (.cells #[.int .i64 r] 3))
  have HB1 := hid (HB0.out.ext (Ext.alloc _ (.cells #[.int .i64 r] 3)))
  have HR1 := hid (Blk.new (w.alloc (.cells #[.slice A up.length c, .slice AF Fl.length cF] 25)) 3 #[.int .i64 r])
  rw [World.size_alloc] at HR1
  go_enter Tryz.func26, Tryz.ntmps26
  go_wp2_with fail
  generalize (w.alloc (.cells #[.slice A up.length c, .slice AF Fl.length cF] 25)).alloc (.cells #[.int .i64 r] 3) = w0 at HE1 HB1 HR1 ⊢
  refine ((HSm _ HE1.out _ _ HB1.out HR1.out).out).mono ?_
  rintro e w1 ⟨v1, rfl, hv1, x1⟩
  have X1 := hid (HE1.out.trans x1)
  have HV := hid hv1
  clear x1 HSm hv1
  go_wp2_with fail
  go_ret
  exact ⟨_, rfl, HV.out, X1.out⟩
set_option maxHeartbeats 1000000 in
theorem rhigh_c (w : World) (a b : Int) : Calls Tryz.prog 19 #[.int .i64 a, .int .i64 b] w (Ret (.int .i64 (max a b)) w) := by
  by_cases h : b < a
  · have d : decide (b < a) = true := decide_eq_true h
    rw [show max a b = a by omega]
    go_enter Tryz.func19, Tryz.ntmps19
    go_wp2_with fail
    go_ret
    exact ⟨rfl, Ext.refl _⟩
  · have d : decide (b < a) = false := decide_eq_false h
    rw [show max a b = b by omega]
    clear h
    go_enter Tryz.func19, Tryz.ntmps19
    go_wp2_with fail
    go_ret
    exact ⟨rfl, Ext.refl _⟩
end Go.Proofs.YtjnjamhohnnefaaGreatDoor
namespace Go.Proofs.YtjnjamhohnnefaaGreatDoor
set_option linter.unusedSimpArgs false
set_option linter.unusedVariables false
open Go.RowKit Go.Sort

theorem has_hit {f g : List ClauseI} (hg : g.all rightC = true) (h : Has f g) (x : FileI) (hx : g.any (hitB x) = true) : f.any (hitB x) = true := by
  rcases (hit_iff g x).1 hx with ⟨c, hc, h1, h2⟩ | h1
  · have hr := List.all_eq_true.1 hg c hc
    unfold rightC at hr
    simp only [Bool.and_eq_true, decide_eq_true_eq] at hr
    obtain ⟨_, l0, l1, l2⟩ := hr
    have hd := h x.p c.lo ((D_iff g x.p c.lo).2 ⟨l0, by omega, c, hc, h1, by omega, l1⟩)
    obtain ⟨_, _, c', hc', k1, _⟩ := (D_iff f x.p c.lo).1 hd
    exact (hit_iff f x).2 (.inl ⟨c', hc', k1, h2⟩)
  · exact (hit_iff f x).2 (.inr (h x.p x.size h1))
/-- What hangs on a replica has no more than it. -/
theorem step_has {up : List Int} {Fl : List (List ClauseI)} (h : checkT up Fl = 0) {r : Int} (h1 : 1 ≤ r ∧ r ≤ up.length) (h0 : upAt up r ≠ 0) (x : FileI) (hx : (Fl.getD (r - 1).toNat []).any (hitB x) = true) : (Fl.getD (upAt up r - 1).toNat []).any (hitB x) = true := by
  obtain ⟨_, _, hf⟩ := check_zero h
  have ha := List.all_eq_true.1 hf (r - 1).toNat (List.mem_range.2 (by omega))
  have hu : up.getD (r - 1).toNat 0 = upAt up r := rfl
  unfold okAt at ha
  rw [hu, if_neg h0, Bool.and_eq_true, Bool.and_eq_true] at ha
  obtain ⟨hok, _, hh⟩ := ha
  unfold okF at hok
  rw [Bool.and_eq_true] at hok
  exact has_hit hok.1 (hasB_iff.1 hh) x hx
theorem way_has {up : List Int} {Fl : List (List ClauseI)} (h : checkT up Fl = 0) (a : Int) (x : FileI) : ∀ (f k : Nat) (r : Int), climb up f r = some k → onWay up k r a = true → (Fl.getD (r - 1).toNat []).any (hitB x) = true → (Fl.getD (a - 1).toNat []).any (hitB x) = true
  | 0, k, r, hc, _, _ => by simp [climb] at hc
  | f + 1, k, r, hc, hw, hx => by
    rcases climb_next hc with ⟨_, rfl⟩ | ⟨j, rfl, hj⟩
    · have hw' : r = a := by simpa [onWay] using hw
      rw [← hw']; exact hx
    · rw [onWay, Bool.or_eq_true] at hw
      rcases hw with hw | hw
      · have hw' : r = a := by simpa using hw
        rw [← hw']; exact hx
      · have hin := climb_in hc
        have h0 : upAt up r ≠ 0 := fun h0 => by
          have := (climb_in hj).1
          omega
        exact way_has h a x f j _ hj hw (step_has h hin h0 x hx)
theorem under_has {up : List Int} {Fl : List (List ClauseI)} (h : checkT up Fl = 0) {r a : Int} (hu : underB up r a = true) (x : FileI) (hx : (Fl.getD (r - 1).toNat []).any (hitB x) = true) : (Fl.getD (a - 1).toNat []).any (hitB x) = true := by
  unfold underB at hu
  cases hc : climb up (up.length + 1) r with
  | none => rw [hc] at hu; exact absurd hu (by simp)
  | some k => rw [hc] at hu; exact way_has h a x _ k r hc hu hx
noncomputable def mayT (up : List Int) (Fl : List (List ClauseI)) (r : Int) (f : List ClauseI) : Int :=
  if checkT up Fl = 0 then (if inT up.length r = true then checkT up (Fl.set (r - 1).toNat f) else 2) else checkT up Fl
theorem mayT_no {up : List Int} {Fl : List (List ClauseI)} {r : Int} {f : List ClauseI} (h : checkT up Fl ≠ 0) : mayT up Fl r f = checkT up Fl := if_neg h
theorem mayT_out {up : List Int} {Fl : List (List ClauseI)} {r : Int} {f : List ClauseI} (h : checkT up Fl = 0) (h2 : inT up.length r = false) : mayT up Fl r f = 2 := by
  unfold mayT; rw [if_pos h, if_neg (by rw [h2]; simp)]
theorem mayT_in {up : List Int} {Fl : List (List ClauseI)} {r : Int} {f : List ClauseI} (h : checkT up Fl = 0) (h2 : inT up.length r = true) : mayT up Fl r f = checkT up (Fl.set (r - 1).toNat f) := by
  unfold mayT; rw [if_pos h, if_pos h2]
/-- A filter's slice. -/
structure FilS where
  A : Option Addr
  n : Nat
  c : Nat
def FilS.val (s : FilS) : Value := .slice s.A s.n s.c
def FilS.cells (s : FilS) : List Value := [.slice s.A s.n s.c]
theorem fil_coded : Coded FilS.cells 1 := ⟨fun _ => rfl, fun a u hu => by simp [FilS.cells] at hu; rcases hu with rfl; rfl⟩
theorem fil_elem : Elem Tryz.prog 23 30 1 24 := by
  refine ⟨Tryz.underlying23, ?_⟩
  have h : (Tryz.prog.info? 30).map (fun i => (i.zero, i.size, i.bytes)) = some (some (.slice none 0 0), 1, 24) := by kernel_rfl
  obtain ⟨i, hi, he⟩ := Option.map_eq_some_iff.1 h
  injection he with h1 h2
  injection h2 with h2 h3
  exact ⟨i, _, hi, h1, h2, h3, rfl⟩
/-- Slices that read as filters. -/
def FilsAt (w : World) (S : List FilS) (Fl : List (List ClauseI)) : Prop := S.length = Fl.length ∧ ∀ i (h : i < S.length) (h' : i < Fl.length), Sl w 3 S[i].val (Fl[i].map ClauseI.cells)
theorem FilsAt.ext {w w' : World} {S : List FilS} {Fl : List (List ClauseI)} (h : FilsAt w S Fl) (he : Ext w w') : FilsAt w' S Fl := ⟨h.1, fun i a b => (h.2 i a b).ext he⟩
theorem FilsAt.set {w : World} {S : List FilS} {Fl : List (List ClauseI)} (h : FilsAt w S Fl) (k : Nat) (s : FilS) (f : List ClauseI) (hs : Sl w 3 s.val (f.map ClauseI.cells)) : FilsAt w (S.set k s) (Fl.set k f) := by
  refine ⟨by simp [h.1], fun i a b => ?_⟩
  rw [List.getElem_set, List.getElem_set]
  by_cases hk : k = i
  · rw [if_pos hk, if_pos hk]; exact hs
  · rw [if_neg hk, if_neg hk]
    exact h.2 i (by simpa using a) (by simpa using b)
theorem FsAt.split {w : World} {AF : Option Addr} {cF : Nat} {Fl : List (List ClauseI)} (h : FsAt w AF cF Fl) : ∃ S, Sl w 1 (.slice AF Fl.length cF) (S.map FilS.cells) ∧ FilsAt w S Fl := by
  obtain ⟨F, h1, h2, h3⟩ := h
  have hv : ∀ v ∈ F, ∃ s : FilS, s.val = v := fun v hv => by
    obtain ⟨i, hi, rfl⟩ := List.mem_iff_getElem.1 hv
    obtain ⟨A, c, he, _⟩ := sl_get (h3 i hi (by omega))
    exact ⟨⟨A, _, c⟩, he.symm⟩
  obtain ⟨S, hS⟩ : ∃ S : List FilS, S.map FilS.val = F := by
    clear h1 h2 h3
    induction F with
    | nil => exact ⟨[], rfl⟩
    | cons v F ih =>
      obtain ⟨s, hs⟩ := hv v (by simp)
      obtain ⟨S, hS⟩ := ih fun u hu => hv u (by simp [hu])
      exact ⟨s :: S, by simp [hs, hS]⟩
  subst hS
  refine ⟨S, by rw [List.map_map] at h2; exact h2, by simpa using h1, fun i a b => ?_⟩
  have := h3 i (by simpa using a) b
  rwa [List.getElem_map] at this
theorem fsAt_of {w : World} {AF : Option Addr} {cF : Nat} {S : List FilS} {Fl : List (List ClauseI)} (h : Sl w 1 (.slice AF Fl.length cF) (S.map FilS.cells)) (hf : FilsAt w S Fl) : FsAt w AF cF Fl :=
  ⟨S.map FilS.val, by simpa using hf.1, by rw [List.map_map]; exact h, fun i a b => by rw [List.getElem_map]; exact hf.2 i (by simpa using a) b⟩
theorem fsAt_own {w : World} {B g cap : Nat} {e : TypeId} {S : List FilS} {Fl : List (List ClauseI)} (h : w.ownsRow B e 1 (.slice (some ⟨g, 0, none⟩) S.length cap) S.length (S.map FilS.cells).flatten) (hA : FilsAt w S Fl) : FsAt w (some ⟨g, 0, none⟩) cap Fl :=
  fsAt_of (by rw [← hA.1]; exact sl_of_row (fil_coded.sizes S) (by rw [List.length_map]; exact h)) hA
/-- A row of filters of one's own, with one of them set. -/
theorem own_set {w : World} {B g cap : Nat} {e : TypeId} {S : List FilS} (h : w.ownsRow B e 1 (.slice (some ⟨g, 0, none⟩) S.length cap) S.length (S.map FilS.cells).flatten) (k : Nat) (s : FilS) : (w.setCell ⟨g, k, none⟩ s.val).ownsRow B e 1 (.slice (some ⟨g, 0, none⟩) (S.set k s).length cap) (S.set k s).length ((S.set k s).map FilS.cells).flatten := by
  have h1 := (h.stored k s.val).1
  have e1 : ∀ S : List FilS, (S.map FilS.cells).flatten = S.map FilS.val := fun S => by
    induction S with
    | nil => rfl
    | cons a S ih => rw [List.map_cons, List.flatten_cons, ih]; rfl
  rw [List.length_set, e1, List.map_set, ← e1]
  exact h1
end Go.Proofs.YtjnjamhohnnefaaGreatDoor
