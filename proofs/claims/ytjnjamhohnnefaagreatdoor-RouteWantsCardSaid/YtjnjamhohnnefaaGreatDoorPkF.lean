/-
  tree.there, steps; the document's Steps.
  The document's Steps; tree.shape, the document's Shape.
  tree.shape; the document's Shape.
  Filters of a tree; tree.filters.
  The document's At; tree.filters.
  The document's Filters.
  tree.Check; the document's Check.
-/
import Derived.Test.YtjnjamhohnnefaaGreatDoorPkE
import Derived.Test.YtjnjamhohnnefaaGreatDoorVerP
import Derived.Test.YtjnjamhohnnefaaGreatDoorPkD
import Derived.Test.YtjnjamhohnnefaaGreatDoorPkC
namespace Go.Proofs.YtjnjamhohnnefaaGreatDoor
set_option linter.unusedSimpArgs false
set_option linter.unusedVariables false
open Go.RowKit Go.Sort

def inT (n : Nat) (r : Int) : Bool := decide (1 ≤ r) && decide (r ≤ n)
theorem inT_iff {n : Nat} {r : Int} : inT n r = true ↔ 1 ≤ r ∧ r ≤ n := by unfold inT; simp
set_option maxHeartbeats 1000000 in
theorem there_c (w : World) (A AF : Option Addr) (n c nF cF : Nat) (r : Int) : Calls Tryz.prog 46 #[.agg #[.slice A n c, .slice AF nF cF], .int .i64 r] w (Ret (.bool (inT n r)) w) := by
  unfold inT
  cases d1 : decide (1 ≤ r) with
  | false =>
    go_enter Tryz.func46, Tryz.ntmps46
    go_wp2_with fail
    go_ret
    exact ⟨rfl, Ext.alloc _ _⟩
  | true =>
    cases d2 : decide (r ≤ (n : Int)) with
    | false =>
      go_enter Tryz.func46, Tryz.ntmps46
      go_wp2_with fail
      go_ret
      exact ⟨rfl, Ext.alloc _ _⟩
    | true =>
      go_enter Tryz.func46, Tryz.ntmps46
      go_wp2_with fail
      go_ret
      exact ⟨rfl, Ext.alloc _ _⟩
/-- How many steps up it is, and whether it is to be reached. -/
def Stepped (up : List Int) (r : Int) (v : Value) (_ : World) : Prop := ∃ (n : Int) (ok : Bool), v = .tuple #[.int .i64 n, .bool ok] ∧ (∀ k : Nat, climb up (up.length + 1) r = some k → n = k ∧ ok = true) ∧ (climb up (up.length + 1) r = none → ok = false)
set_option maxRecDepth 100000 in
set_option maxHeartbeats 4000000 in
theorem steps_c (w : World) (up : List Int) (A AF : Option Addr) (c nF cF : Nat) (r : Int) (hu : Sl w 1 (.slice A up.length c) (Ints up)) (hl : up.length ≤ 1000) : Calls Tryz.prog 51 #[.agg #[.slice A up.length c, .slice AF nF cF], .int .i64 r] w (RetQ (Stepped up r) w) := by
  obtain ⟨A', c', hv, h1, h2, h3⟩ := hu
  injection hv with hA hn hc
  subst hA hc
  clear hn
  simp only [Ints, List.length_map] at h1 h3
  unfold maxLen at h2
  have HT := fun W r => hid (there_c W A AF up.length c nF cF r)
  have HE0 := hid (Ext.alloc w (.cells #[.slice A up.length c, .slice AF nF cF] 25))
  have HB0 := hid (Blk.new w 25 #[.slice A up.length c, .slice AF nF cF])
  go_enter Tryz.func51, Tryz.ntmps51
  go_wp2_with fail
  generalize w.alloc (.cells #[.slice A up.length c, .slice AF nF cF] 25) = w0 at HE0 HB0 ⊢
  generalize w.heap.size = g at HB0 ⊢
  have z0 := HB0.out.cell (i := 0) (v := .slice A up.length c) rfl
  have z1 := HB0.out.cell (i := 1) (v := .slice AF nF cF) rfl
  have zl := HB0.out.lt
  go_step3
  go_wp2_with fail
  refine ((HT _ _).out).mono ?_
  rintro e w1 ⟨rfl, x1⟩
  have HE1 := hid (HE0.out.trans x1)
  have HB1 := hid (HB0.out.ext x1)
  clear x1 HE0 HB0 z0 z1 zl
  go_wp2_with fail
  go_step3
  go_wp2_with fail
  go_loopw [1, 6, 7] (fun s1 s6 s7 wr => ∃ (r' : Int) (n : Nat), s1 = .int .i64 r' ∧ s6 = .int .i64 n ∧ s7 = .bool (inT up.length r') ∧ n ≤ up.length ∧ Ext w1 wr ∧ Hid (climb up (up.length + 1) r = (climb up (up.length + 1 - n) r').map (· + n))) (fun _ s6 _ _ => up.length - (intOf s6).toNat)
  case atStart => exact ⟨r, 0, rfl, rfl, rfl, by omega, Ext.refl _, by unfold Hid; simp⟩
  case round =>
    obtain ⟨r', n, rfl, rfl, rfl, hn, hE, hc⟩ := hrel
    have HE := hid hE
    have hb := HB1.out.ext hE
    have q0 := hb.cell (i := 0) (v := .slice A up.length c) rfl
    have q1 := hb.cell (i := 1) (v := .slice AF nF cF) rfl
    have ql := hb.lt
    obtain ⟨m, hm⟩ : ∃ m, up.length + 1 - n = m + 1 := ⟨up.length - n, by omega⟩
    rw [hm] at hc
    cases hin : inT up.length r' with
    | false =>
      have hno : Hid (climb up (up.length + 1) r = none) := by
        unfold Hid
        rw [hc.out, climb_out (fun h => by rw [inT_iff.2 h] at hin; cases hin)]
        rfl
      clear hE hc h3 hb HT hin
      go_wp2_with fail
      rw [Exit.noGoto_ret]
      go_ret2
      exact ⟨_, rfl, ⟨n, false, rfl, (fun k hk => by rw [hno.out] at hk; cases hk), fun _ => rfl⟩, HE1.out.trans HE.out⟩
    | true =>
      have hin' := inT_iff.1 hin
      obtain ⟨k, hk, hrk, hup⟩ := upAt_get hin'
      have hup := hup hk
      obtain rfl : r' = (k : Int) + 1 := by omega
      obtain ⟨b, o, rfl, lb, hcell⟩ := h3 (by omega)
      have c0 := (HE1.out.trans hE).cell (hcell k [.int .i64 up[k]] 0 (.int .i64 up[k]) (by simp [hk]) rfl)
      simp only [Nat.mul_one, Nat.add_zero] at c0
      have lbr := Nat.lt_of_lt_of_le lb (HE1.out.trans hE).size
      have HUp := hid hup
      clear hcell h3 hup
      generalize up[k] = z at c0 HUp
      by_cases hz : z = 0
      · subst hz
        have hyes : Hid (climb up (up.length + 1) r = some n) := by
          unfold Hid
          rw [hc.out, climb_root hin' HUp.out]
          simp
        clear hE hc hb HT hin hin' hrk
        go_wp2_with fail
        rw [Exit.noGoto_ret]
        go_ret2
        exact ⟨_, rfl, ⟨n, true, rfl, fun k hk => by rw [hyes.out] at hk; injection hk with hk; subst hk; exact ⟨rfl, rfl⟩, fun h => by rw [hyes.out] at h; cases h⟩, HE1.out.trans HE.out⟩
      · have dz : (z != 0) = true := by simp [hz]
        have dz2 : (z == 0) = false := by simp [hz]
        have hc2 : Hid (climb up (up.length + 1) r = (climb up m z).map (· + (1 + n))) := by
          unfold Hid
          rw [hc.out, climb_step hin' (by rw [HUp.out]; exact hz), HUp.out, map_add]
        clear hc hin hin' hrk hz HUp hE
        by_cases hlast : n < up.length
        · have d1 : decide ((up.length : Int) < (n : Int) + 1) = false := decide_eq_false (by omega)
          have d1' : decide (up.length < n + 1) = false := decide_eq_false (by omega)
          go_wp2_with (go_at_call 46; refine ((HT _ _).out).mono ?_; rintro e w2 ⟨rfl, x2⟩; have HX2 := hid (HE.out.trans x2); have hb2 := hb.ext x2; have y0 := hb2.cell (i := 0) (v := .slice (some ⟨b, o, none⟩) up.length c) rfl; have y1 := hb2.cell (i := 1) (v := .slice AF nF cF) rfl; have yl := hb2.lt; clear x2 hb2)
          go_roundw
          case rel => exact ⟨z, n + 1, rfl, by go_num, rfl, by omega, HX2.out, by unfold Hid; rw [hc2.out, show up.length + 1 - (n + 1) = m by omega, show 1 + n = n + 1 by omega]⟩
          case measure => simp [intOf]; omega
        · have hm0 : m = 0 := by omega
          have hno : Hid (climb up (up.length + 1) r = none) := by unfold Hid; rw [hc2.out, hm0]; rfl
          have d1 : decide ((up.length : Int) < (n : Int) + 1) = true := decide_eq_true (by omega)
          have d1' : decide (up.length < n + 1) = true := decide_eq_true (by omega)
          clear hc2
          go_wp2_with (go_at_call 46; refine ((HT _ _).out).mono ?_; rintro e w2 ⟨rfl, x2⟩; have HX2 := hid (HE.out.trans x2); have hb2 := hb.ext x2; have y0 := hb2.cell (i := 0) (v := .slice (some ⟨b, o, none⟩) up.length c) rfl; have y1 := hb2.cell (i := 1) (v := .slice AF nF cF) rfl; have yl := hb2.lt; clear x2 hb2)
          rw [Exit.noGoto_ret]
          go_ret2
          exact ⟨_, rfl, ⟨_, false, rfl, (fun k hk => by rw [hno.out] at hk; cases hk), fun _ => rfl⟩, HE1.out.trans HX2.out⟩
end Go.Proofs.YtjnjamhohnnefaaGreatDoor
namespace Go.Proofs.YtjnjamhohnnefaaGreatDoor
set_option linter.unusedSimpArgs false
set_option linter.unusedVariables false
open Go.RowKit Go.Sort

def stepsZ (up : List Int) (r : Int) : Int := match climb up (up.length + 1) r with | some k => k | none => -1
theorem stepsZ_some {up : List Int} {r : Int} {k : Nat} (h : climb up (up.length + 1) r = some k) : stepsZ up r = k := by unfold stepsZ; rw [h]
theorem stepsZ_none {up : List Int} {r : Int} (h : climb up (up.length + 1) r = none) : stepsZ up r = -1 := by unfold stepsZ; rw [h]
set_option maxRecDepth 100000 in
set_option maxHeartbeats 4000000 in
theorem rsteps_c (w : World) (up : List Int) (A : Option Addr) (c : Nat) (r : Int) (hu : Sl w 1 (.slice A up.length c) (Ints up)) (hl : up.length ≤ 1000) : Calls Tryz.prog 20 #[.slice A up.length c, .int .i64 r] w (Ret (.int .i64 (stepsZ up r)) w) := by
  obtain ⟨A', c', hv, h1, h2, h3⟩ := hu
  injection hv with hA hn hc
  subst hA hc
  clear hn
  simp only [Ints, List.length_map] at h1 h3
  unfold maxLen at h2
  go_enter Tryz.func20, Tryz.ntmps20
  go_wp2_with fail
  go_loopw [1, 5] (fun s1 s5 wr => ∃ (r' : Int) (n : Nat), s1 = .int .i64 r' ∧ s5 = .int .i64 n ∧ n ≤ up.length + 1 ∧ Ext w wr ∧ Hid (climb up (up.length + 1) r = (climb up (up.length + 1 - n) r').map (· + n))) (fun _ s5 _ => up.length + 1 - (intOf s5).toNat)
  case atStart => exact ⟨r, 0, rfl, rfl, by omega, Ext.refl _, by unfold Hid; simp⟩
  case round =>
    obtain ⟨r', n, rfl, rfl, hn, hE, hc⟩ := hrel
    have HE := hid hE
    by_cases hlast : n ≤ up.length
    · have d0 : decide ((n : Int) ≤ up.length) = true := decide_eq_true (by omega)
      have d0' : decide (n ≤ up.length) = true := decide_eq_true hlast
      obtain ⟨m, hm⟩ : ∃ m, up.length + 1 - n = m + 1 := ⟨up.length - n, by omega⟩
      rw [hm] at hc
      cases d1 : decide (r' < 1) with
      | true =>
        have hno : Hid (climb up (up.length + 1) r = none) := by
          unfold Hid
          rw [hc.out, climb_out (fun h => by simp at d1; omega)]
          rfl
        clear hE hc h3
        go_wp2_with fail
        go_ret
        exact ⟨by rw [stepsZ_none hno.out]; rfl, HE.out⟩
      | false =>
        cases d2 : decide ((up.length : Int) < r') with
        | true =>
          have hno : Hid (climb up (up.length + 1) r = none) := by
            unfold Hid
            rw [hc.out, climb_out (fun h => by simp at d2; omega)]
            rfl
          clear hE hc h3
          go_wp2_with fail
          go_ret
          exact ⟨by rw [stepsZ_none hno.out]; rfl, HE.out⟩
        | false =>
          have hin' : 1 ≤ r' ∧ r' ≤ up.length := by simp at d1 d2; omega
          obtain ⟨k, hk, hrk, hup⟩ := upAt_get hin'
          have hup := hup hk
          obtain rfl : r' = (k : Int) + 1 := by omega
          obtain ⟨b, o, rfl, lb, hcell⟩ := h3 (by omega)
          have c0 := hE.cell (hcell k [.int .i64 up[k]] 0 (.int .i64 up[k]) (by simp [hk]) rfl)
          simp only [Nat.mul_one, Nat.add_zero] at c0
          have lbr := Nat.lt_of_lt_of_le lb hE.size
          have HUp := hid hup
          clear hcell h3 hup
          generalize up[k] = z at c0 HUp
          by_cases hz : z = 0
          · subst hz
            have hyes : Hid (climb up (up.length + 1) r = some n) := by
              unfold Hid
              rw [hc.out, climb_root hin' HUp.out]
              simp
            clear hE hc hin' hrk
            go_wp2_with fail
            go_ret
            exact ⟨by rw [stepsZ_some hyes.out]; rfl, HE.out⟩
          · have dz2 : (z == 0) = false := by simp [hz]
            have hc2 : Hid (climb up (up.length + 1) r = (climb up m z).map (· + (1 + n))) := by
              unfold Hid
              rw [hc.out, climb_step hin' (by rw [HUp.out]; exact hz), HUp.out, map_add]
            clear hc hin' hrk hz HUp hE
            go_wp2_with fail
            go_roundw
            case rel => exact ⟨z, n + 1, rfl, by go_num, by omega, HE.out, by unfold Hid; rw [hc2.out, show up.length + 1 - (n + 1) = m by omega, show 1 + n = n + 1 by omega]⟩
            case measure => simp [intOf]; omega
    · have d0 : decide ((n : Int) ≤ up.length) = false := decide_eq_false (by omega)
      have d0' : decide (n ≤ up.length) = false := decide_eq_false hlast
      have hno : Hid (climb up (up.length + 1) r = none) := by
        unfold Hid
        rw [hc.out, show up.length + 1 - n = 0 by omega]
        rfl
      clear hE hc h3
      go_wp2_with fail
      go_ret
      exact ⟨by rw [stepsZ_none hno.out]; rfl, HE.out⟩
/-- Do replicas make a tree? -/
def shapeB (up : List Int) (nF : Nat) : Bool := ((List.range up.length).all fun i => (climb up (up.length + 1) ((i : Int) + 1)).isSome) && (((up.count 0 : Nat) : Int) == 1 && ((nF : Int) == up.length))
theorem shapeB_no {up : List Int} {nF i : Nat} (h : i < up.length) (hc : climb up (up.length + 1) ((i : Int) + 1) = none) : shapeB up nF = false := by
  unfold shapeB
  rw [List.all_eq_false.2 ⟨i, by simpa using h, by simp [hc]⟩]; rfl
theorem shapeB_yes {up : List Int} {nF : Nat} (h : ∀ i, i < up.length → ∃ k, climb up (up.length + 1) ((i : Int) + 1) = some k) : shapeB up nF = (((up.count 0 : Nat) : Int) == 1 && ((nF : Int) == up.length)) := by
  unfold shapeB
  rw [List.all_eq_true.2 (fun i hi => by
    obtain ⟨k, hk⟩ := h i (by simpa using hi)
    rw [hk]; rfl)]
  rfl
theorem count_take {up : List Int} {k : Nat} (h : k < up.length) : (up.take (k + 1)).count 0 = (up.take k).count 0 + (if up[k] = 0 then 1 else 0) := by
  rw [List.take_succ_eq_append_getElem h, List.count_append, List.count_singleton]
  by_cases h0 : up[k] = 0
  · rw [if_pos h0]; simp [h0]
  · rw [if_neg h0]; simp [h0]
end Go.Proofs.YtjnjamhohnnefaaGreatDoor
namespace Go.Proofs.YtjnjamhohnnefaaGreatDoor
set_option linter.unusedSimpArgs false
set_option linter.unusedVariables false
open Go.RowKit Go.Sort

set_option maxRecDepth 100000 in
set_option maxHeartbeats 4000000 in
theorem shape_c (w : World) (up : List Int) (A AF : Option Addr) (c nF cF : Nat) (hu : Sl w 1 (.slice A up.length c) (Ints up)) (hl : up.length ≤ 1000) : Calls Tryz.prog 42 #[.agg #[.slice A up.length c, .slice AF nF cF]] w (Ret (.bool (shapeB up nF)) w) := by
  have HSt := fun W (hW : Ext w W) r => hid (steps_c W up A AF c nF cF r (hu.ext hW) hl)
  obtain ⟨A', c', hv, h1, h2, h3⟩ := hu
  injection hv with hA hn hc
  subst hA hc
  clear hn
  simp only [Ints, List.length_map] at h1 h3
  unfold maxLen at h2
  have HNo : Hid (∀ i : Nat, i < up.length → climb up (up.length + 1) ((i : Int) + 1) = none → shapeB up nF = false) := fun i h hc => shapeB_no h hc
  have HYes : Hid ((∀ i : Nat, i < up.length → ∃ k, climb up (up.length + 1) ((i : Int) + 1) = some k) → shapeB up nF = (((up.count 0 : Nat) : Int) == 1 && ((nF : Int) == up.length))) := shapeB_yes
  generalize shapeB up nF = r at HNo HYes ⊢
  have HE0 := hid (Ext.alloc w (.cells #[.slice A up.length c, .slice AF nF cF] 25))
  have HB0 := hid (Blk.new w 25 #[.slice A up.length c, .slice AF nF cF])
  go_enter Tryz.func42, Tryz.ntmps42
  go_wp2_with fail
  generalize w.alloc (.cells #[.slice A up.length c, .slice AF nF cF] 25) = w0 at HE0 HB0 ⊢
  generalize w.heap.size = g at HB0 ⊢
  have z0 := HB0.out.cell (i := 0) (v := .slice A up.length c) rfl
  have z1 := HB0.out.cell (i := 1) (v := .slice AF nF cF) rfl
  have zl := HB0.out.lt
  go_loopw [3, 11] (fun s3 i wr => ∃ k : Nat, k ≤ up.length ∧ i = .int .i64 k ∧ s3 = .int .i64 ((up.take k).count 0 : Nat) ∧ Ext w0 wr ∧ Hid (∀ j : Nat, j < k → ∃ m, climb up (up.length + 1) ((j : Int) + 1) = some m)) (fun _ i _ => up.length - (intOf i).toNat)
  case atStart => exact ⟨0, by omega, rfl, rfl, Ext.refl _, fun j hj => by omega⟩
  case round =>
    obtain ⟨k, hk, rfl, rfl, hE, hno⟩ := hrel
    have HE := hid hE
    have hb := HB0.out.ext hE
    have q0 := hb.cell (i := 0) (v := .slice A up.length c) rfl
    have q1 := hb.cell (i := 1) (v := .slice AF nF cF) rfl
    have ql := hb.lt
    clear z0 z1 zl
    by_cases hlt : k < up.length
    · have hrt : (up.take k).count 0 ≤ 1000 := by
        have h1 := List.count_le_length (a := (0 : Int)) (l := up.take k)
        rw [List.length_take] at h1
        omega
      obtain ⟨b, o, rfl, lb, hcell⟩ := h3 (by omega)
      have c0 := (HE0.out.trans hE).cell (hcell k [.int .i64 up[k]] 0 (.int .i64 up[k]) (by simp [hlt]) rfl)
      simp only [Nat.mul_one, Nat.add_zero] at c0
      have lbr := Nat.lt_of_lt_of_le lb (HE0.out.trans hE).size
      have HCt := hid (count_take hlt)
      have HS1 := fun W (hW : Ext wr W) => HSt W (HE0.out.trans (hE.trans hW)) ((k : Int) + 1)
      have HNo1 := hid (HNo.out k hlt)
      have HNx : Hid (∀ m, climb up (up.length + 1) ((k : Int) + 1) = some m → ∀ j : Nat, j < k + 1 → ∃ m, climb up (up.length + 1) ((j : Int) + 1) = some m) := fun m e j hj => by
        by_cases hjk : j = k
        · subst hjk; exact ⟨m, e⟩
        · exact hno.out j (by omega)
      clear hcell h3 hE hno HSt HNo HYes
      generalize up[k] = z at c0 HCt
      generalize hcl : climb up (up.length + 1) ((k : Int) + 1) = cl at HNo1 HNx
      generalize (up.take k).count 0 = rt at HCt hrt ⊢
      have hcs := HS1 _ (Ext.refl _)
      cases hz : (z == 0) with
      | true =>
        have hz' : z = 0 := by simpa using hz
        have HCt : Hid ((up.take (k + 1)).count 0 = rt + 1) := by unfold Hid; rw [HCt.out, if_pos hz']
        go_wp2_with fail
        refine (hcs.out).mono ?_
        rintro e w2 ⟨v2, rfl, ⟨n, ok, rfl, hs1, hs2⟩, x2⟩
        have X2 := hid (HE.out.trans x2)
        rw [hcl] at hs1 hs2
        clear x2 hcs HS1
        cases cl with
        | none =>
          obtain rfl := hs2 rfl
          have HN1 := hid (HNo1.out rfl)
          clear hs1 hs2 HNx HNo1
          go_wp2_with fail
          go_ret
          exact ⟨by rw [HN1.out]; rfl, HE0.out.trans X2.out⟩
        | some m =>
          obtain ⟨rfl, rfl⟩ := hs1 m rfl
          have HNx := hid (HNx.out m rfl)
          clear hs1 hs2 HNo1
          go_wp2_with fail
          go_roundw
          case rel => exact ⟨k + 1, by omega, by go_num, by rw [HCt.out]; go_num, X2.out, HNx.out⟩
          case measure => simp [intOf]; omega
      | false =>
        have hz' : ¬ z = 0 := by simpa using hz
        have HCt : Hid ((up.take (k + 1)).count 0 = rt) := by unfold Hid; rw [HCt.out, if_neg hz']; rfl
        go_wp2_with fail
        refine (hcs.out).mono ?_
        rintro e w2 ⟨v2, rfl, ⟨n, ok, rfl, hs1, hs2⟩, x2⟩
        have X2 := hid (HE.out.trans x2)
        rw [hcl] at hs1 hs2
        clear x2 hcs HS1
        cases cl with
        | none =>
          obtain rfl := hs2 rfl
          have HN1 := hid (HNo1.out rfl)
          clear hs1 hs2 HNx HNo1
          go_wp2_with fail
          go_ret
          exact ⟨by rw [HN1.out]; rfl, HE0.out.trans X2.out⟩
        | some m =>
          obtain ⟨rfl, rfl⟩ := hs1 m rfl
          have HNx := hid (HNx.out m rfl)
          clear hs1 hs2 HNo1
          go_wp2_with fail
          go_roundw
          case rel => exact ⟨k + 1, by omega, by go_num, by rw [HCt.out], X2.out, HNx.out⟩
          case measure => simp [intOf]; omega
    · obtain rfl : k = up.length := by omega
      have hr := hid (HYes.out fun i hi => hno.out i hi)
      clear hE h3 hno HYes HNo HSt hb
      rw [List.take_length]
      cases e1 : (((up.count 0 : Nat) : Int) == 1) with
      | false =>
        have hr : Hid (r = false) := by rw [hr.out, e1]; rfl
        go_wp2_with fail
        go_ret
        exact ⟨by rw [hr.out]; rfl, HE0.out.trans HE.out⟩
      | true =>
        cases e2 : ((nF : Int) == up.length) with
        | false =>
          have hr : Hid (r = false) := by rw [hr.out, e1, e2]; rfl
          go_wp2_with fail
          go_ret
          exact ⟨by rw [hr.out]; rfl, HE0.out.trans HE.out⟩
        | true =>
          have hr : Hid (r = true) := by rw [hr.out, e1, e2]; rfl
          go_wp2_with fail
          go_ret
          exact ⟨by rw [hr.out]; rfl, HE0.out.trans HE.out⟩
set_option maxRecDepth 100000 in
set_option maxHeartbeats 4000000 in
theorem rshape_c (w : World) (up : List Int) (A AF : Option Addr) (c nF cF : Nat) (hu : Sl w 1 (.slice A up.length c) (Ints up)) (hl : up.length ≤ 1000) : Calls Tryz.prog 44 #[.agg #[.slice A up.length c, .slice AF nF cF]] w (Ret (.bool (shapeB up nF)) w) := by
  have HSt := fun W (hW : Ext w W) r => hid (rsteps_c W up A c r (hu.ext hW) hl)
  obtain ⟨A', c', hv, h1, h2, h3⟩ := hu
  injection hv with hA hn hc
  subst hA hc
  clear hn
  simp only [Ints, List.length_map] at h1 h3
  unfold maxLen at h2
  have HNo : Hid (∀ i : Nat, i < up.length → climb up (up.length + 1) ((i : Int) + 1) = none → shapeB up nF = false) := fun i h hc => shapeB_no h hc
  have HYes : Hid ((∀ i : Nat, i < up.length → ∃ k, climb up (up.length + 1) ((i : Int) + 1) = some k) → shapeB up nF = (((up.count 0 : Nat) : Int) == 1 && ((nF : Int) == up.length))) := shapeB_yes
  generalize shapeB up nF = r at HNo HYes ⊢
  have HE0 := hid (Ext.alloc w (.cells #[.slice A up.length c, .slice AF nF cF] 25))
  have HB0 := hid (Blk.new w 25 #[.slice A up.length c, .slice AF nF cF])
  go_enter Tryz.func44, Tryz.ntmps44
  go_wp2_with fail
  generalize w.alloc (.cells #[.slice A up.length c, .slice AF nF cF] 25) = w0 at HE0 HB0 ⊢
  generalize w.heap.size = g at HB0 ⊢
  have z0 := HB0.out.cell (i := 0) (v := .slice A up.length c) rfl
  have z1 := HB0.out.cell (i := 1) (v := .slice AF nF cF) rfl
  have zl := HB0.out.lt
  go_loopw [3, 4] (fun s3 i wr => ∃ k : Nat, k ≤ up.length ∧ i = .int .i64 k ∧ s3 = .int .i64 ((up.take k).count 0 : Nat) ∧ Ext w0 wr ∧ Hid (∀ j : Nat, j < k → ∃ m, climb up (up.length + 1) ((j : Int) + 1) = some m)) (fun _ i _ => up.length - (intOf i).toNat)
  case atStart => exact ⟨0, by omega, rfl, rfl, Ext.refl _, fun j hj => by omega⟩
  case round =>
    obtain ⟨k, hk, rfl, rfl, hE, hno⟩ := hrel
    have HE := hid hE
    have hb := HB0.out.ext hE
    have q0 := hb.cell (i := 0) (v := .slice A up.length c) rfl
    have q1 := hb.cell (i := 1) (v := .slice AF nF cF) rfl
    have ql := hb.lt
    clear z0 z1 zl
    by_cases hlt : k < up.length
    · have hrt : (up.take k).count 0 ≤ 1000 := by
        have h1 := List.count_le_length (a := (0 : Int)) (l := up.take k)
        rw [List.length_take] at h1
        omega
      obtain ⟨b, o, rfl, lb, hcell⟩ := h3 (by omega)
      have c0 := (HE0.out.trans hE).cell (hcell k [.int .i64 up[k]] 0 (.int .i64 up[k]) (by simp [hlt]) rfl)
      simp only [Nat.mul_one, Nat.add_zero] at c0
      have lbr := Nat.lt_of_lt_of_le lb (HE0.out.trans hE).size
      have HCt := hid (count_take hlt)
      have HS1 := fun W (hW : Ext wr W) => HSt W (HE0.out.trans (hE.trans hW)) ((k : Int) + 1)
      have HNo1 := hid (HNo.out k hlt)
      have HNx : Hid (∀ m, climb up (up.length + 1) ((k : Int) + 1) = some m → ∀ j : Nat, j < k + 1 → ∃ m, climb up (up.length + 1) ((j : Int) + 1) = some m) := fun m e j hj => by
        by_cases hjk : j = k
        · subst hjk; exact ⟨m, e⟩
        · exact hno.out j (by omega)
      clear hcell h3 hE hno HSt HNo HYes
      generalize up[k] = z at c0 HCt
      generalize hcl : climb up (up.length + 1) ((k : Int) + 1) = cl at HNo1 HNx
      generalize (up.take k).count 0 = rt at HCt hrt ⊢
      have hcs := HS1 _ (Ext.refl _)
      unfold stepsZ at hcs
      rw [hcl] at hcs
      clear HS1
      cases cl with
      | none =>
        have HN1 := hid (HNo1.out rfl)
        clear HNx HNo1
        go_wp2_with fail
        refine (hcs.out).mono ?_
        rintro e w2 ⟨rfl, x2⟩
        have X2 := hid (HE.out.trans x2)
        clear x2 hcs
        go_wp2_with fail
        go_ret
        exact ⟨by rw [HN1.out]; rfl, HE0.out.trans X2.out⟩
      | some m =>
        have HNx := hid (HNx.out m rfl)
        have dm : decide ((m : Int) < 0) = false := decide_eq_false (by omega)
        clear HNo1
        go_wp2_with fail
        refine (hcs.out).mono ?_
        rintro e w2 ⟨rfl, x2⟩
        have X2 := hid (HE.out.trans x2)
        have hb2 := hb.ext x2
        have y0 := hb2.cell (i := 0) (v := .slice (some ⟨b, o, none⟩) up.length c) rfl
        have y1 := hb2.cell (i := 1) (v := .slice AF nF cF) rfl
        have yl := hb2.lt
        have d0 := x2.cell c0
        have dl := Nat.lt_of_lt_of_le lbr x2.size
        clear x2 hcs hb2 hb
        cases hz : (z == 0) with
        | true =>
          have hz' : z = 0 := by simpa using hz
          have HCt : Hid ((up.take (k + 1)).count 0 = rt + 1) := by unfold Hid; rw [HCt.out, if_pos hz']
          go_wp2_with fail
          go_roundw
          case rel => exact ⟨k + 1, by omega, by go_num, by rw [HCt.out]; go_num, X2.out, HNx.out⟩
          case measure => simp [intOf]; omega
        | false =>
          have hz' : ¬ z = 0 := by simpa using hz
          have HCt : Hid ((up.take (k + 1)).count 0 = rt) := by unfold Hid; rw [HCt.out, if_neg hz']; rfl
          go_wp2_with fail
          go_roundw
          case rel => exact ⟨k + 1, by omega, by go_num, by rw [HCt.out], X2.out, HNx.out⟩
          case measure => simp [intOf]; omega
    · obtain rfl : k = up.length := by omega
      have hr := hid (HYes.out fun i hi => hno.out i hi)
      clear hE h3 hno HYes HNo HSt hb
      rw [List.take_length]
      cases e1 : (((up.count 0 : Nat) : Int) == 1) with
      | false =>
        have hr : Hid (r = false) := by rw [hr.out, e1]; rfl
        go_wp2_with fail
        go_ret
        exact ⟨by rw [hr.out]; rfl, HE0.out.trans HE.out⟩
      | true =>
        cases e2 : ((nF : Int) == up.length) with
        | false =>
          have hr : Hid (r = false) := by rw [hr.out, e1, e2]; rfl
          go_wp2_with fail
          go_ret
          exact ⟨by rw [hr.out]; rfl, HE0.out.trans HE.out⟩
        | true =>
          have hr : Hid (r = true) := by rw [hr.out, e1, e2]; rfl
          go_wp2_with fail
          go_ret
          exact ⟨by rw [hr.out]; rfl, HE0.out.trans HE.out⟩
end Go.Proofs.YtjnjamhohnnefaaGreatDoor
namespace Go.Proofs.YtjnjamhohnnefaaGreatDoor
set_option linter.unusedSimpArgs false
set_option linter.unusedVariables false
open Go.RowKit Go.Sort

def allF : List ClauseI := [⟨⟨#[]⟩, 0, 200⟩]
theorem allF_light : LightF allF := fun c hc => by
  rw [List.mem_singleton.1 hc]; decide
set_option maxHeartbeats 1000000 in
theorem all_c (w : World) : Calls Tryz.prog 41 #[] w (RetQ (fun v w' => Sl w' 3 v (allF.map ClauseI.cells)) w) := by
  have hl := hid (lit_row (w := w) (n := 1) clause_coded 65 allF #[.string ⟨#[]⟩, .int .i64 0, .int .i64 200] rfl rfl (by unfold maxLen; omega))
  go_enter Tryz.func41, Tryz.ntmps41
  go_wp2_with fail
  go_ret
  exact ⟨_, rfl, hl.out, Ext.alloc _ _⟩
/-- A row of filters. -/
def FsAt (w : World) (AF : Option Addr) (cF : Nat) (Fl : List (List ClauseI)) : Prop :=
  ∃ F : List Value, F.length = Fl.length ∧ Sl w 1 (.slice AF Fl.length cF) (F.map fun v => [v]) ∧ ∀ i (h : i < F.length) (h' : i < Fl.length), Sl w 3 F[i] (Fl[i].map ClauseI.cells)
theorem FsAt.ext {w w' : World} {AF : Option Addr} {cF : Nat} {Fl : List (List ClauseI)} (h : FsAt w AF cF Fl) (he : Ext w w') : FsAt w' AF cF Fl := by
  obtain ⟨F, h1, h2, h3⟩ := h
  exact ⟨F, h1, h2.ext he, fun i a b => (h3 i a b).ext he⟩
theorem FsAt.cap {w : World} {AF : Option Addr} {cF : Nat} {Fl : List (List ClauseI)} (h : FsAt w AF cF Fl) : Fl.length ≤ cF ∧ cF ≤ maxLen := by
  obtain ⟨F, h1, ⟨A', c', hv, h2, h3, _⟩, _⟩ := h
  injection hv with hA hn hc
  subst hA hc
  rw [List.length_map] at h2
  exact ⟨by omega, h3⟩
theorem FsAt.at {w : World} {AF : Option Addr} {cF : Nat} {Fl : List (List ClauseI)} (h : FsAt w AF cF Fl) {i : Nat} (hi : i < Fl.length) : ∃ b o A c, AF = some ⟨b, o, none⟩ ∧ b < w.heap.size ∧ w.cell? ⟨b, o + i, none⟩ = some (.slice A Fl[i].length c) ∧ Sl w 3 (.slice A Fl[i].length c) (Fl[i].map ClauseI.cells) := by
  obtain ⟨F, h1, ⟨A', c', hv, h2, h3, h4⟩, h5⟩ := h
  injection hv with hA hn hc
  subst hA hc
  obtain ⟨b, o, hAF, hb, hcell⟩ := h4 (by rw [List.length_map]; omega)
  have hiF : i < F.length := by omega
  have hs := h5 i hiF hi
  have hc := hcell i [F[i]] 0 F[i] (by simp [hiF]) rfl
  simp only [Nat.mul_one, Nat.add_zero] at hc
  obtain ⟨A, c, hvi, _⟩ := sl_get hs
  rw [hvi] at hc hs
  exact ⟨b, o, A, c, hAF, hb, hc, hs⟩
/-- May a filter be where it is? -/
noncomputable def sameB (f g : List ClauseI) : Bool := decide (normF f = normF g)
theorem same_has {f g : List ClauseI} (h : sameB f g = true) : hasB f g = true := hasB_yes (has_like ((norm_iff f g).1 (of_decide_eq_true h)))
noncomputable def okAt (up : List Int) (Fl : List (List ClauseI)) (i : Nat) : Bool :=
  okF (Fl.getD i []) && (!((((Fl.getD i []).length : Nat) : Int) == 0) && (if up.getD i 0 = 0 then sameB allF (Fl.getD i []) else hasB (Fl.getD (up.getD i 0 - 1).toNat []) (Fl.getD i [])))
noncomputable def filtersB (up : List Int) (Fl : List (List ClauseI)) : Bool := (List.range up.length).all fun i => okAt up Fl i
theorem filtersB_no {up : List Int} {Fl : List (List ClauseI)} {i : Nat} (h : i < up.length) (hc : okAt up Fl i = false) : filtersB up Fl = false := List.all_eq_false.2 ⟨i, List.mem_range.2 h, by rw [hc]; exact Bool.false_ne_true⟩
theorem filtersB_yes {up : List Int} {Fl : List (List ClauseI)} (h : ∀ i, i < up.length → okAt up Fl i = true) : filtersB up Fl = true := List.all_eq_true.2 fun i hi => h i (List.mem_range.1 hi)
/-- Each one's upper one is there. -/
def UpIn (up : List Int) : Prop := ∀ i (h : i < up.length), up[i] = 0 ∨ (1 ≤ up[i] ∧ up[i] ≤ up.length)
theorem shape_in {up : List Int} {nF : Nat} (h : shapeB up nF = true) : UpIn up ∧ nF = up.length := by
  unfold shapeB at h
  rw [Bool.and_eq_true, Bool.and_eq_true, List.all_eq_true] at h
  obtain ⟨h1, _, h2⟩ := h
  refine ⟨fun i hi => ?_, by have h9 := of_decide_eq_true h2; omega⟩
  have h3 := h1 i (by simpa using hi)
  by_cases h0 : up[i] = 0
  · exact .inl h0
  · refine .inr (Classical.byContradiction fun hn => ?_)
    have hin : (1 : Int) ≤ (i : Int) + 1 ∧ (i : Int) + 1 ≤ up.length := by omega
    have hup : upAt up ((i : Int) + 1) = up[i] := by
      unfold upAt
      rw [show ((i : Int) + 1 - 1).toNat = i by omega, List.getD_eq_getElem?_getD, List.getElem?_eq_getElem hi]; rfl
    rw [climb_step hin (by rw [hup]; exact h0), hup, climb_out hn] at h3
    cases h3
end Go.Proofs.YtjnjamhohnnefaaGreatDoor
namespace Go.Proofs.YtjnjamhohnnefaaGreatDoor
set_option linter.unusedSimpArgs false
set_option linter.unusedVariables false
open Go.RowKit Go.Sort

set_option maxHeartbeats 1000000 in
theorem rat_c (w : World) (b o nF cF : Nat) (i : Nat) (v : Value) (h : i < nF) (hm : nF ≤ 1000) (hb : b < w.heap.size) (hc : w.cell? ⟨b, o + i, none⟩ = some v) : Calls Tryz.prog 38 #[.slice (some ⟨b, o, none⟩) nF cF, .int .i64 i] w (Ret v w) := by
  have d0 : decide ((i : Int) < 0) = false := decide_eq_false (by omega)
  have d1 : decide ((nF : Int) ≤ i) = false := decide_eq_false (by omega)
  have d1' : decide (nF ≤ i) = false := decide_eq_false (by omega)
  go_enter Tryz.func38, Tryz.ntmps38
  go_wp2_with fail
  go_ret
  exact ⟨rfl, Ext.refl _⟩
set_option maxRecDepth 100000 in
set_option maxHeartbeats 8000000 in
theorem filters_c (w : World) (up : List Int) (Fl : List (List ClauseI)) (A AF : Option Addr) (c cF : Nat) (m : Int) (hm : w.cell? ⟨0, 0, none⟩ = some (.int .i64 m)) (hu : Sl w 1 (.slice A up.length c) (Ints up)) (hl : up.length ≤ 1000) (hF : FsAt w AF cF Fl) (hlen : Fl.length = up.length) (hin : UpIn up) (hL : ∀ f ∈ Fl, LightF f ∧ f.length ≤ 5000) : Calls Tryz.prog 43 #[.agg #[.slice A up.length c, .slice AF up.length cF]] w (Ret (.bool (filtersB up Fl)) w) := by
  have HAll := fun W => hid (all_c W)
  have HC := fun W (hW : Ext w W) v f (h : Sl W 3 v (f.map ClauseI.cells)) (hs : LightF f) => hid (fcheck_c W v f m (hW.cell hm) h hs)
  have HF := hid hF
  have HL := hid hL
  have HIn := hid hin
  obtain ⟨A', c', hv, h1, h2, h3⟩ := hu
  injection hv with hA hn hc
  subst hA hc
  clear hn
  simp only [Ints, List.length_map] at h1 h3
  unfold maxLen at h2
  have HNo : Hid (∀ i : Nat, i < up.length → okAt up Fl i = false → filtersB up Fl = false) := fun i h hc => filtersB_no h hc
  have HYes : Hid ((∀ i : Nat, i < up.length → okAt up Fl i = true) → filtersB up Fl = true) := filtersB_yes
  generalize filtersB up Fl = r at HNo HYes ⊢
  have HE0 := hid (Ext.alloc w (.cells #[.slice A up.length c, .slice AF up.length cF] 25))
  have HB0 := hid (Blk.new w 25 #[.slice A up.length c, .slice AF up.length cF])
  have HLen := hid hlen
  clear hm hF hL hin hlen
  go_enter Tryz.func43, Tryz.ntmps43
  go_wp2_with fail
  generalize w.alloc (.cells #[.slice A up.length c, .slice AF up.length cF] 25) = w0 at HE0 HB0 ⊢
  generalize w.heap.size = g at HB0 ⊢
  have z0 := HB0.out.cell (i := 0) (v := .slice A up.length c) rfl
  have z1 := HB0.out.cell (i := 1) (v := .slice AF up.length cF) rfl
  have zl := HB0.out.lt
  go_loopw [9] (fun i wr => ∃ k : Nat, k ≤ up.length ∧ i = .int .i64 k ∧ Ext w0 wr ∧ Hid (∀ j : Nat, j < k → okAt up Fl j = true)) (fun i _ => up.length - (intOf i).toNat)
  case atStart => exact ⟨0, by omega, rfl, Ext.refl _, fun j hj => by omega⟩
  case round =>
    obtain ⟨k, hk, rfl, hE, hno⟩ := hrel
    have HE := hid hE
    have hb := HB0.out.ext hE
    have q0 := hb.cell (i := 0) (v := .slice A up.length c) rfl
    have q1 := hb.cell (i := 1) (v := .slice AF up.length cF) rfl
    have ql := hb.lt
    clear z0 z1 zl
    by_cases hlt' : k < up.length
    · have hlt : k < Fl.length := by rw [HLen.out]; exact hlt'
      obtain ⟨b, o, rfl, lb, hcell⟩ := h3 (by omega)
      have c0 := (HE0.out.trans hE).cell (hcell k [.int .i64 up[k]] 0 (.int .i64 up[k]) (by simp [hlt']) rfl)
      simp only [Nat.mul_one, Nat.add_zero] at c0
      have lbr := Nat.lt_of_lt_of_le lb (HE0.out.trans hE).size
      obtain ⟨bF, oF, A2, c2, rfl, lF, f0, hs⟩ := (HF.out.ext (HE0.out.trans hE)).at hlt
      have HS := hid hs
      have HLk := hid (HL.out _ (List.getElem_mem hlt))
      have HC1 := HC _ (HE0.out.trans hE) _ _ hs HLk.out.1
      have HInk := hid (HIn.out k hlt')
      have HOk : Hid (okAt up Fl k = (okF Fl[k] && (!(((Fl[k].length : Nat) : Int) == 0) && (if up[k] = 0 then sameB allF Fl[k] else hasB (Fl.getD (up[k] - 1).toNat []) Fl[k])))) := by
        unfold Hid okAt
        rw [List.getD_eq_getElem?_getD, List.getElem?_eq_getElem hlt, List.getD_eq_getElem?_getD, List.getElem?_eq_getElem hlt']; rfl
      have HN1 := hid (HNo.out k hlt')
      have HNx : Hid (okAt up Fl k = true → ∀ j : Nat, j < k + 1 → okAt up Fl j = true) := fun e j hj => by
        by_cases hjk : j = k
        · subst hjk; exact e
        · exact hno.out j (by omega)
      clear hcell h3 hs hno HNo HYes HC
      generalize okAt up Fl k = ok at HOk HN1 HNx
      obtain ⟨hl2, hm2⟩ := show Fl[k].length ≤ c2 ∧ c2 ≤ maxLen by
        obtain ⟨A', c', hv, h2, h3, _⟩ := sl_get HS.out
        injection hv with hA hn hc
        subst hc
        exact ⟨h2, h3⟩
      unfold maxLen at hm2
      generalize Fl[k] = f at f0 HS HLk HC1 HOk hl2
      generalize up[k] = z at c0 HInk HOk
      clear hlt
      by_cases e0 : checkF f = 0
      · rw [e0] at HC1
        rw [(checkF_ok f).1 e0] at HOk
        by_cases e1 : f.length = 0
        · have HN1 : Hid (r = false) := HN1.out (by rw [HOk.out, e1]; rfl)
          clear HOk HNx hE
          rw [e1] at f0 HC1 hl2
          go_wp2_with fail
          refine (HC1.out).mono ?_
          rintro e w2 ⟨rfl, x2⟩
          have X2 := hid (HE.out.trans x2)
          clear x2 HC1
          go_wp2_with fail
          go_ret
          exact ⟨by rw [HN1.out]; rfl, HE0.out.trans X2.out⟩
        · have d1 : decide (f.length = 0) = false := decide_eq_false e1
          have d1' : (((f.length : Nat) : Int) == 0) = false := by simp [e1]
          rw [d1'] at HOk
          clear hE
          go_wp2_with fail
          refine (HC1.out).mono ?_
          rintro e w2 ⟨rfl, x2⟩
          have X2 := hid (HE.out.trans x2)
          have HS2 := hid (HS.out.ext x2)
          have f2 := x2.cell f0
          have hb2 := hb.ext x2
          have a2 := hb2.cell (i := 0) (v := .slice (some ⟨b, o, none⟩) up.length c) rfl
          have b2 := hb2.cell (i := 1) (v := .slice (some ⟨bF, oF, none⟩) up.length cF) rfl
          have l2 := hb2.lt
          have c2' := x2.cell c0
          have d2 := Nat.lt_of_lt_of_le lbr x2.size
          clear HC1 HS f0 q0 q1 ql c0 lbr lF
          go_wp2_with fail
          refine ((HAll _).out).mono ?_
          rintro e w3 ⟨v3, rfl, hv3, x3⟩
          have X3 := hid (X2.out.trans x3)
          have HS3 := hid (HS2.out.ext x3)
          have HV3 := hid hv3
          obtain ⟨A5, c5, rfl, _⟩ := sl_get hv3
          have f3 := x3.cell f2
          have hb3 := hb2.ext x3
          have a3 := hb3.cell (i := 0) (v := .slice (some ⟨b, o, none⟩) up.length c) rfl
          have b3 := hb3.cell (i := 1) (v := .slice (some ⟨bF, oF, none⟩) up.length cF) rfl
          have l3 := hb3.lt
          have c3 := x3.cell c2'
          have d3 := Nat.lt_of_lt_of_le d2 x3.size
          clear x2 x3 hv3 HS2 f2 a2 b2 l2 c2' d2 hb2
          have HSub := fun W (hW : Ext w3 W) v g (hv : Sl W 3 v (g.map ClauseI.cells)) (hg : LightF g ∧ g.length ≤ 5000) => hid (subsumes_c W v _ g f hv (HS3.out.ext hW) hg.2 HLk.out.2 hg.1 HLk.out.1)
          have HSm := fun W (hW : Ext w3 W) => hid (fsame_c W _ _ allF f (HV3.out.ext hW) (HS3.out.ext hW) (by decide) HLk.out.2 allF_light HLk.out.1)
          by_cases hz : z = 0
          · subst hz
            rw [if_pos rfl] at HOk
            clear HInk
            go_wp2_with fail
            refine ((HSub _ (Ext.refl _) _ _ HV3.out ⟨allF_light, by decide⟩).out).mono ?_
            rintro e w4 ⟨rfl, x4⟩
            have X4 := hid (X3.out.trans x4)
            have HSm := HSm _ x4
            have hb4 := hb3.ext x4
            have a4 := hb4.cell (i := 0) (v := .slice (some ⟨b, o, none⟩) up.length c) rfl
            have b4 := hb4.cell (i := 1) (v := .slice (some ⟨bF, oF, none⟩) up.length cF) rfl
            have l4 := hb4.lt
            have c4 := x4.cell c3
            have d4 := Nat.lt_of_lt_of_le d3 x4.size
            clear x4 hb4 hb3 a3 b3 l3 c3 d3 HSub
            cases hB : hasB allF f with
            | false =>
              have HN1 : Hid (r = false) := HN1.out (by
                rw [HOk.out]
                cases hs : sameB allF f with
                | true => rw [same_has hs] at hB; cases hB
                | false => rfl)
              clear HOk HNx HSm hB
              go_wp2_with fail
              go_ret
              exact ⟨by rw [HN1.out]; rfl, HE0.out.trans X4.out⟩
            | true =>
              clear hB
              go_wp2_with fail
              refine (HSm.out).mono ?_
              rintro e w5 ⟨rfl, x5⟩
              have X5 := hid (X4.out.trans x5)
              clear x5 HSm
              unfold sameB at HOk
              cases hB : decide (normF allF = normF f) with
              | false =>
                have HN1 : Hid (r = false) := HN1.out (by rw [HOk.out, hB]; rfl)
                clear HOk HNx hB
                go_wp2_with fail
                go_ret
                exact ⟨by rw [HN1.out]; rfl, HE0.out.trans X5.out⟩
              | true =>
                have HOk : Hid (ok = true) := by rw [HOk.out, hB]; rfl
                clear HN1 hB
                go_wp2_with fail
                have HNx := hid (HNx.out HOk.out)
                go_roundw
                case rel => exact ⟨k + 1, by omega, by go_num, X5.out, HNx.out⟩
                case measure => simp [intOf]; omega
          · have dz : (z != 0) = true := by simp [hz]
            rw [if_neg hz] at HOk
            obtain ⟨j, hj⟩ : ∃ j : Nat, z = (j : Int) + 1 := ⟨(z - 1).toNat, by rcases HInk.out with h | h <;> omega⟩
            subst hj
            have hjl : j < up.length := by rcases HInk.out with h | h <;> omega
            have hjF : j < Fl.length := by rw [HLen.out]; exact hjl
            obtain ⟨_, _, A6, c6, hAF, lF, e6, hs6⟩ := (HF.out.ext (HE0.out.trans X3.out)).at hjF
            cases hAF
            rw [show ((j : Int) + 1 - 1).toNat = j by omega, List.getD_eq_getElem?_getD, List.getElem?_eq_getElem hjF, Option.getD_some] at HOk
            have HSub1 := fun W (hW : Ext w3 W) => HSub W hW _ _ (hs6.ext hW) (HL.out _ (List.getElem_mem hjF))
            obtain ⟨hl6, hm6⟩ := show Fl[j].length ≤ c6 ∧ c6 ≤ maxLen by
              obtain ⟨A', c', hv, h2, h3, _⟩ := sl_get hs6
              injection hv with hA hn hc
              subst hc
              exact ⟨h2, h3⟩
            unfold maxLen at hm6
            clear HSub HSm hs6
            generalize Fl[j] = g2 at HOk e6 HSub1 hl6
            clear HInk hz hjF
            go_wp2_with fail
            refine wp_region_any_order (by kernel_rfl) (by kernel_rfl) (by kernel_rfl) ?_
            repeat (first
              | (refine AWq.val rfl rfl rfl rfl (fun K hK => ?_); go_big_quiet_op; refine hK _ ?_; clear hK K)
              | (refine AWq.skip rfl rfl rfl ?_; simp only [Act.put, List.setIfInBounds_toArray, List.set_cons_succ, List.set_cons_zero]))
            refine AWq.done rfl rfl rfl (fun w4 x4 => ?_)
            simp only [closeAny, Act.put, List.setIfInBounds_toArray, List.set_cons_succ, List.set_cons_zero]
            have X4 := hid (X3.out.trans x4)
            have HSub2 := HSub1 _ x4
            have hb4 := hb3.ext x4
            have a4 := hb4.cell (i := 0) (v := .slice (some ⟨b, o, none⟩) up.length c) rfl
            have b4 := hb4.cell (i := 1) (v := .slice (some ⟨bF, oF, none⟩) up.length cF) rfl
            have l4 := hb4.lt
            have c4 := x4.cell c3
            have d4 := Nat.lt_of_lt_of_le d3 x4.size
            clear x4 hb3 a3 b3 l3 c3 d3 HSub1 e6
            go_wp2_with fail
            refine (HSub2.out).mono ?_
            rintro e w5 ⟨rfl, x5⟩
            have X5 := hid (X4.out.trans x5)
            have hb5 := hb4.ext x5
            have a5 := hb5.cell (i := 0) (v := .slice (some ⟨b, o, none⟩) up.length c) rfl
            have b5 := hb5.cell (i := 1) (v := .slice (some ⟨bF, oF, none⟩) up.length cF) rfl
            have l5 := hb5.lt
            have c5' := x5.cell c4
            have d5 := Nat.lt_of_lt_of_le d4 x5.size
            clear x5 hb4 hb5 a4 b4 l4 c4 d4 HSub2
            cases hB : hasB g2 f with
            | false =>
              have HN1 : Hid (r = false) := HN1.out (by rw [HOk.out, hB]; rfl)
              clear HOk HNx hB
              go_wp2_with fail
              go_ret
              exact ⟨by rw [HN1.out]; rfl, HE0.out.trans X5.out⟩
            | true =>
              have HOk : Hid (ok = true) := by rw [HOk.out, hB]; rfl
              clear HN1 hB
              go_wp2_with fail
              have HNx := hid (HNx.out HOk.out)
              go_roundw
              case rel => exact ⟨k + 1, by omega, by go_num, X5.out, HNx.out⟩
              case measure => simp [intOf]; omega
      · have HN1 : Hid (r = false) := HN1.out (by
          rw [HOk.out]
          cases hk : okF f with
          | true => exact absurd ((checkF_ok f).2 hk) e0
          | false => rfl)
        have d0 : (checkF f != 0) = true := by simp [e0]
        generalize checkF f = cf at *
        clear HOk HNx hE e0
        go_wp2_with fail
        refine (HC1.out).mono ?_
        rintro e w2 ⟨rfl, x2⟩
        have X2 := hid (HE.out.trans x2)
        clear x2 HC1
        go_wp2_with fail
        go_ret
        exact ⟨by rw [HN1.out]; rfl, HE0.out.trans X2.out⟩
    · obtain rfl : k = up.length := by omega
      have hr := hid (HYes.out fun i hi => hno.out i (by omega))
      clear hE h3 hno HYes HNo
      go_wp2_with fail
      go_ret
      exact ⟨by rw [hr.out]; rfl, HE0.out.trans HE.out⟩
end Go.Proofs.YtjnjamhohnnefaaGreatDoor
namespace Go.Proofs.YtjnjamhohnnefaaGreatDoor
set_option linter.unusedSimpArgs false
set_option linter.unusedVariables false
open Go.RowKit Go.Sort

set_option maxRecDepth 100000 in
set_option maxHeartbeats 8000000 in
theorem rfilters_c (w : World) (up : List Int) (Fl : List (List ClauseI)) (A AF : Option Addr) (c cF : Nat) (hu : Sl w 1 (.slice A up.length c) (Ints up)) (hl : up.length ≤ 1000) (hF : FsAt w AF cF Fl) (hlen : Fl.length = up.length) (hin : UpIn up) (hL : ∀ f ∈ Fl, LightF f ∧ f.length ≤ 5000) : Calls Tryz.prog 45 #[.agg #[.slice A up.length c, .slice AF up.length cF]] w (Ret (.bool (filtersB up Fl)) w) := by
  have HF := hid hF
  have HL := hid hL
  have HIn := hid hin
  obtain ⟨A', c', hv, h1, h2, h3⟩ := hu
  injection hv with hA hn hc
  subst hA hc
  clear hn
  simp only [Ints, List.length_map] at h1 h3
  unfold maxLen at h2
  have HNo : Hid (∀ i : Nat, i < up.length → okAt up Fl i = false → filtersB up Fl = false) := fun i h hc => filtersB_no h hc
  have HYes : Hid ((∀ i : Nat, i < up.length → okAt up Fl i = true) → filtersB up Fl = true) := filtersB_yes
  generalize filtersB up Fl = r at HNo HYes ⊢
  have HE0 := hid (Ext.alloc w (.cells #[.slice A up.length c, .slice AF up.length cF] 25))
  have HB0 := hid (Blk.new w 25 #[.slice A up.length c, .slice AF up.length cF])
  have HLen := hid hlen
  clear hF hL hin hlen
  have HA := hid (lit_row (w := w.alloc (.cells #[.slice A up.length c, .slice AF up.length cF] 25)) (n := 1) clause_coded 65 allF #[.string ⟨#[]⟩, .int .i64 0, .int .i64 200] rfl rfl (by unfold maxLen; omega))
  rw [World.size_alloc] at HA
  go_enter Tryz.func45, Tryz.ntmps45
  go_wp2_with fail
  generalize w.alloc (.cells #[.slice A up.length c, .slice AF up.length cF] 25) = w0 at HE0 HB0 HA ⊢
  generalize w.heap.size = g at HB0 HA ⊢
  have HE0 := hid (HE0.out.alloc' (.cells #[.string ⟨#[]⟩, .int .i64 0, .int .i64 200] 65))
  have HB0 := hid (HB0.out.ext (Ext.alloc _ (.cells #[.string ⟨#[]⟩, .int .i64 0, .int .i64 200] 65)))
  generalize w0.alloc (.cells #[.string ⟨#[]⟩, .int .i64 0, .int .i64 200] 65) = w1 at HE0 HB0 HA ⊢
  have z0 := HB0.out.cell (i := 0) (v := .slice A up.length c) rfl
  have z1 := HB0.out.cell (i := 1) (v := .slice AF up.length cF) rfl
  have zl := HB0.out.lt
  go_loopw [4] (fun i wr => ∃ k : Nat, k ≤ up.length ∧ i = .int .i64 k ∧ Ext w1 wr ∧ Hid (∀ j : Nat, j < k → okAt up Fl j = true)) (fun i _ => up.length - (intOf i).toNat)
  case atStart => exact ⟨0, by omega, rfl, Ext.refl _, fun j hj => by omega⟩
  case round =>
    obtain ⟨k, hk, rfl, hE, hno⟩ := hrel
    have HE := hid hE
    have hb := HB0.out.ext hE
    have q0 := hb.cell (i := 0) (v := .slice A up.length c) rfl
    have q1 := hb.cell (i := 1) (v := .slice AF up.length cF) rfl
    have ql := hb.lt
    clear z0 z1 zl
    by_cases hlt' : k < up.length
    · have hlt : k < Fl.length := by rw [HLen.out]; exact hlt'
      obtain ⟨b, o, rfl, lb, hcell⟩ := h3 (by omega)
      have c0 := (HE0.out.trans hE).cell (hcell k [.int .i64 up[k]] 0 (.int .i64 up[k]) (by simp [hlt']) rfl)
      simp only [Nat.mul_one, Nat.add_zero] at c0
      have lbr := Nat.lt_of_lt_of_le lb (HE0.out.trans hE).size
      obtain ⟨bF, oF, A2, c2, rfl, lF, f0, hs⟩ := (HF.out.ext (HE0.out.trans hE)).at hlt
      have HS := hid hs
      have HLk := hid (HL.out _ (List.getElem_mem hlt))
      have HInk := hid (HIn.out k hlt')
      have HOk : Hid (okAt up Fl k = (okF Fl[k] && (!(((Fl[k].length : Nat) : Int) == 0) && (if up[k] = 0 then sameB allF Fl[k] else hasB (Fl.getD (up[k] - 1).toNat []) Fl[k])))) := by
        unfold Hid okAt
        rw [List.getD_eq_getElem?_getD, List.getElem?_eq_getElem hlt, List.getD_eq_getElem?_getD, List.getElem?_eq_getElem hlt']; rfl
      have HN1 := hid (HNo.out k hlt')
      have HNx : Hid (okAt up Fl k = true → ∀ j : Nat, j < k + 1 → okAt up Fl j = true) := fun e j hj => by
        by_cases hjk : j = k
        · subst hjk; exact e
        · exact hno.out j (by omega)
      clear hcell h3 hs hno HNo HYes
      generalize okAt up Fl k = ok at HOk HN1 HNx
      obtain ⟨hl2, hm2⟩ := show Fl[k].length ≤ c2 ∧ c2 ≤ maxLen by
        obtain ⟨A', c', hv, h2, h3, _⟩ := sl_get HS.out
        injection hv with hA hn hc
        subst hc
        exact ⟨h2, h3⟩
      unfold maxLen at hm2
      generalize Fl[k] = f at f0 HS HLk HOk hl2
      generalize up[k] = z at c0 HInk HOk
      clear hlt
      have HAt := hid (rat_c wr bF oF up.length cF k _ hlt' hl lF f0)
      clear hE
      go_wp2_with fail
      refine (HAt.out).mono ?_
      rintro e w2 ⟨rfl, x2⟩
      have X2 := hid (HE.out.trans x2)
      have HS2 := hid (HS.out.ext x2)
      have HR := hid (rfilter_c w2 _ f HS2.out HLk.out.1)
      have hb2 := hb.ext x2
      have a2 := hb2.cell (i := 0) (v := .slice (some ⟨b, o, none⟩) up.length c) rfl
      have b2 := hb2.cell (i := 1) (v := .slice (some ⟨bF, oF, none⟩) up.length cF) rfl
      have l2 := hb2.lt
      have c2' := x2.cell c0
      have d2 := Nat.lt_of_lt_of_le lbr x2.size
      clear HAt HS f0 q0 q1 ql c0 lbr lF x2 hb
      go_wp2_with fail
      refine (HR.out).mono ?_
      rintro e w3 ⟨rfl, x3⟩
      have X3 := hid (X2.out.trans x3)
      have HS3 := hid (HS2.out.ext x3)
      have hb3 := hb2.ext x3
      have a3 := hb3.cell (i := 0) (v := .slice (some ⟨b, o, none⟩) up.length c) rfl
      have b3 := hb3.cell (i := 1) (v := .slice (some ⟨bF, oF, none⟩) up.length cF) rfl
      have l3 := hb3.lt
      have c3 := x3.cell c2'
      have d3 := Nat.lt_of_lt_of_le d2 x3.size
      clear HR HS2 a2 b2 l2 c2' d2 x3 hb2
      cases e0 : okF f with
      | false =>
        have HN1 : Hid (r = false) := HN1.out (by rw [HOk.out, e0]; rfl)
        clear HOk HNx e0
        go_wp2_with fail
        go_ret
        exact ⟨by rw [HN1.out]; rfl, HE0.out.trans X3.out⟩
      | true =>
        rw [e0] at HOk
        by_cases e1 : f.length = 0
        · have HN1 : Hid (r = false) := HN1.out (by rw [HOk.out, e1]; rfl)
          clear HOk HNx e0
          rw [e1] at hl2 ⊢
          go_wp2_with fail
          go_ret
          exact ⟨by rw [HN1.out]; rfl, HE0.out.trans X3.out⟩
        · have d1 : decide (f.length = 0) = false := decide_eq_false e1
          have d1' : (((f.length : Nat) : Int) == 0) = false := by simp [e1]
          rw [d1'] at HOk
          have HX1 := hid ((HE0.out.trans X3.out))
          have HV3 := hid (HA.out.ext X3.out)
          have HAl := fun W (hW : Ext w3 W) => hid (ralike_c W _ _ allF f (HV3.out.ext hW) (HS3.out.ext hW) (by decide) HLk.out.2 allF_light HLk.out.1)
          have HSub := fun W (hW : Ext w3 W) v g (hv : Sl W 3 v (g.map ClauseI.cells)) (hg : LightF g ∧ g.length ≤ 5000) => hid (rsubsumes_c W v _ g f hv (HS3.out.ext hW) hg.2 HLk.out.2 hg.1 HLk.out.1)
          clear e0 e1
          by_cases hz : z = 0
          · subst hz
            rw [if_pos rfl] at HOk
            clear HInk HSub
            unfold sameB at HOk
            cases hB : decide (normF allF = normF f) with
            | false =>
              have HN1 : Hid (r = false) := HN1.out (by rw [HOk.out, hB]; rfl)
              rw [hB] at HAl
              clear HOk HNx hB
              go_wp2_with fail
              refine wp_region_any_order (by kernel_rfl) (by kernel_rfl) (by kernel_rfl) ?_
              repeat (first
                | (refine AWq.val rfl rfl rfl rfl (fun K hK => ?_); go_big_quiet_op; refine hK _ ?_; clear hK K)
                | (refine AWq.skip rfl rfl rfl ?_; simp only [Act.put, List.setIfInBounds_toArray, List.set_cons_succ, List.set_cons_zero])
                | (refine AWq.call rfl Tryz.func66 (by kernel_rfl) (by kernel_rfl) rfl rfl rfl ?_; apply Exists.intro; refine And.intro (fun wc hc => ?_) ?_; (· (simp only [argsOf, anyAt, ↓reduceIte, Nat.reduceEqDiff, Array.getD_eq_getD_getElem?, List.getElem?_toArray, List.getElem?_cons_succ, List.getElem?_cons_zero, Option.getD_some]; with_reducible exact (HAl _ hc).out)); simp only [Act.put, List.setIfInBounds_toArray, List.set_cons_succ, List.set_cons_zero]))
              refine AWq.done rfl rfl rfl (fun w4 x4 => ?_)
              simp only [closeAny, Act.put, List.setIfInBounds_toArray, List.set_cons_succ, List.set_cons_zero]
              have X4 := hid (X3.out.trans x4)
              go_wp2_with fail
              go_ret
              exact ⟨by rw [HN1.out]; rfl, HE0.out.trans X4.out⟩
            | true =>
              have HOk : Hid (ok = true) := by rw [HOk.out, hB]; rfl
              rw [hB] at HAl
              clear HN1 hB
              go_wp2_with fail
              refine wp_region_any_order (by kernel_rfl) (by kernel_rfl) (by kernel_rfl) ?_
              repeat (first
                | (refine AWq.val rfl rfl rfl rfl (fun K hK => ?_); go_big_quiet_op; refine hK _ ?_; clear hK K)
                | (refine AWq.skip rfl rfl rfl ?_; simp only [Act.put, List.setIfInBounds_toArray, List.set_cons_succ, List.set_cons_zero])
                | (refine AWq.call rfl Tryz.func66 (by kernel_rfl) (by kernel_rfl) rfl rfl rfl ?_; apply Exists.intro; refine And.intro (fun wc hc => ?_) ?_; (· (simp only [argsOf, anyAt, ↓reduceIte, Nat.reduceEqDiff, Array.getD_eq_getD_getElem?, List.getElem?_toArray, List.getElem?_cons_succ, List.getElem?_cons_zero, Option.getD_some]; with_reducible exact (HAl _ hc).out)); simp only [Act.put, List.setIfInBounds_toArray, List.set_cons_succ, List.set_cons_zero]))
              refine AWq.done rfl rfl rfl (fun w4 x4 => ?_)
              simp only [closeAny, Act.put, List.setIfInBounds_toArray, List.set_cons_succ, List.set_cons_zero]
              have X4 := hid (X3.out.trans x4)
              have HNx := hid (HNx.out HOk.out)
              go_wp2_with fail
              go_roundw
              case rel => exact ⟨k + 1, by omega, by go_num, X4.out, HNx.out⟩
              case measure => simp [intOf]; omega
          · have dz : (z != 0) = true := by simp [hz]
            have dz' : (z == 0) = false := by simp [hz]
            rw [if_neg hz] at HOk
            obtain ⟨j, hj⟩ : ∃ j : Nat, z = (j : Int) + 1 := ⟨(z - 1).toNat, by rcases HInk.out with h | h <;> omega⟩
            subst hj
            have hjl : j < up.length := by rcases HInk.out with h | h <;> omega
            have hjF : j < Fl.length := by rw [HLen.out]; exact hjl
            obtain ⟨_, _, A6, c6, hAF, lF, e6, hs6⟩ := (HF.out.ext HX1.out).at hjF
            cases hAF
            rw [show ((j : Int) + 1 - 1).toNat = j by omega, List.getD_eq_getElem?_getD, List.getElem?_eq_getElem hjF, Option.getD_some] at HOk
            have HSub1 := fun W (hW : Ext w3 W) => HSub W hW _ _ (hs6.ext hW) (HL.out _ (List.getElem_mem hjF))
            have HAt := fun W (hW : Ext w3 W) => hid (rat_c W bF oF up.length cF j _ hjl hl (Nat.lt_of_lt_of_le lF hW.size) (hW.cell e6))
            clear HSub HAl hs6 e6 lF
            generalize Fl[j] = g2 at HOk HSub1 HAt
            clear HInk hz hjF
            cases hB : hasB g2 f with
            | false =>
              have HN1 : Hid (r = false) := HN1.out (by rw [HOk.out, hB]; rfl)
              rw [hB] at HSub1
              clear HOk HNx hB
              go_wp2_with fail
              refine wp_region_any_order (by kernel_rfl) (by kernel_rfl) (by kernel_rfl) ?_
              repeat (first
                | (refine AWq.val rfl rfl rfl rfl (fun K hK => ?_); go_big_quiet_op; refine hK _ ?_; clear hK K)
                | (refine AWq.skip rfl rfl rfl ?_; simp only [Act.put, List.setIfInBounds_toArray, List.set_cons_succ, List.set_cons_zero])
                | (refine AWq.call rfl Tryz.func38 (by kernel_rfl) (by kernel_rfl) rfl rfl rfl ?_; apply Exists.intro; refine And.intro (fun wc hc => ?_) ?_; (· (simp only [argsOf, anyAt, ↓reduceIte, Nat.reduceEqDiff, Array.getD_eq_getD_getElem?, List.getElem?_toArray, List.getElem?_cons_succ, List.getElem?_cons_zero, Option.getD_some]; with_reducible exact (HAt _ hc).out)); simp only [Act.put, List.setIfInBounds_toArray, List.set_cons_succ, List.set_cons_zero])
                | (refine AWq.call rfl Tryz.func67 (by kernel_rfl) (by kernel_rfl) rfl rfl rfl ?_; apply Exists.intro; refine And.intro (fun wc hc => ?_) ?_; (· (simp only [argsOf, anyAt, ↓reduceIte, Nat.reduceEqDiff, Array.getD_eq_getD_getElem?, List.getElem?_toArray, List.getElem?_cons_succ, List.getElem?_cons_zero, Option.getD_some]; with_reducible exact (HSub1 _ hc).out)); simp only [Act.put, List.setIfInBounds_toArray, List.set_cons_succ, List.set_cons_zero]))
              refine AWq.done rfl rfl rfl (fun w4 x4 => ?_)
              simp only [closeAny, Act.put, List.setIfInBounds_toArray, List.set_cons_succ, List.set_cons_zero]
              have X4 := hid (X3.out.trans x4)
              go_wp2_with fail
              go_ret
              exact ⟨by rw [HN1.out]; rfl, HE0.out.trans X4.out⟩
            | true =>
              have HOk : Hid (ok = true) := by rw [HOk.out, hB]; rfl
              rw [hB] at HSub1
              clear HN1 hB
              go_wp2_with fail
              refine wp_region_any_order (by kernel_rfl) (by kernel_rfl) (by kernel_rfl) ?_
              repeat (first
                | (refine AWq.val rfl rfl rfl rfl (fun K hK => ?_); go_big_quiet_op; refine hK _ ?_; clear hK K)
                | (refine AWq.skip rfl rfl rfl ?_; simp only [Act.put, List.setIfInBounds_toArray, List.set_cons_succ, List.set_cons_zero])
                | (refine AWq.call rfl Tryz.func38 (by kernel_rfl) (by kernel_rfl) rfl rfl rfl ?_; apply Exists.intro; refine And.intro (fun wc hc => ?_) ?_; (· (simp only [argsOf, anyAt, ↓reduceIte, Nat.reduceEqDiff, Array.getD_eq_getD_getElem?, List.getElem?_toArray, List.getElem?_cons_succ, List.getElem?_cons_zero, Option.getD_some]; with_reducible exact (HAt _ hc).out)); simp only [Act.put, List.setIfInBounds_toArray, List.set_cons_succ, List.set_cons_zero])
                | (refine AWq.call rfl Tryz.func67 (by kernel_rfl) (by kernel_rfl) rfl rfl rfl ?_; apply Exists.intro; refine And.intro (fun wc hc => ?_) ?_; (· (simp only [argsOf, anyAt, ↓reduceIte, Nat.reduceEqDiff, Array.getD_eq_getD_getElem?, List.getElem?_toArray, List.getElem?_cons_succ, List.getElem?_cons_zero, Option.getD_some]; with_reducible exact (HSub1 _ hc).out)); simp only [Act.put, List.setIfInBounds_toArray, List.set_cons_succ, List.set_cons_zero]))
              refine AWq.done rfl rfl rfl (fun w4 x4 => ?_)
              simp only [closeAny, Act.put, List.setIfInBounds_toArray, List.set_cons_succ, List.set_cons_zero]
              have X4 := hid (X3.out.trans x4)
              have HNx := hid (HNx.out HOk.out)
              go_wp2_with fail
              go_roundw
              case rel => exact ⟨k + 1, by omega, by go_num, X4.out, HNx.out⟩
              case measure => simp [intOf]; omega
    · obtain rfl : k = up.length := by omega
      have hr := hid (HYes.out fun i hi => hno.out i (by omega))
      clear hE h3 hno HYes HNo
      go_wp2_with fail
      go_ret
      exact ⟨by rw [hr.out]; rfl, HE0.out.trans HE.out⟩
end Go.Proofs.YtjnjamhohnnefaaGreatDoor
namespace Go.Proofs.YtjnjamhohnnefaaGreatDoor
set_option linter.unusedSimpArgs false
set_option linter.unusedVariables false
open Go.RowKit Go.Sort

/-- What a tree's check says. -/
noncomputable def checkT (up : List Int) (Fl : List (List ClauseI)) : Int := if 64 < up.length then 4 else if shapeB up Fl.length = true then (if filtersB up Fl = true then 0 else 14) else 2
set_option maxRecDepth 100000 in
set_option maxHeartbeats 4000000 in
theorem check_c (w : World) (up : List Int) (Fl : List (List ClauseI)) (A AF : Option Addr) (c cF : Nat) (m : Int) (hm : w.cell? ⟨0, 0, none⟩ = some (.int .i64 m)) (hu : Sl w 1 (.slice A up.length c) (Ints up)) (hl : up.length ≤ 1000) (hF : FsAt w AF cF Fl) (hL : ∀ f ∈ Fl, LightF f ∧ f.length ≤ 5000) : Calls Tryz.prog 12 #[.agg #[.slice A up.length c, .slice AF Fl.length cF]] w (Ret (.int .i64 (checkT up Fl)) w) := by
  have HE0 := hid (Ext.alloc w (.cells #[.slice A up.length c, .slice AF Fl.length cF] 25))
  have HB0 := hid (Blk.new w 25 #[.slice A up.length c, .slice AF Fl.length cF])
  have HS := fun W (hW : Ext w W) => hid (shape_c W up A AF c Fl.length cF (hu.ext hW) hl)
  have HFi := fun W (hW : Ext w W) (hlen : Fl.length = up.length) (hin : UpIn up) => hid (filters_c W up Fl A AF c cF m (hW.cell hm) (hu.ext hW) hl (hF.ext hW) hlen hin hL)
  have HIn : Hid (shapeB up Fl.length = true → UpIn up ∧ Fl.length = up.length) := shape_in
  unfold checkT
  clear hu hF hL
  by_cases d : 64 < up.length
  · have d0 : decide ((64 : Int) < up.length) = true := decide_eq_true (by omega)
    have d0' : decide (64 < up.length) = true := decide_eq_true d
    rw [if_pos d]
    clear HS HFi HIn
    go_enter Tryz.func12, Tryz.ntmps12
    go_wp2_with fail
    go_ret
    exact ⟨rfl, HE0.out⟩
  · have d0 : decide ((64 : Int) < up.length) = false := decide_eq_false (by omega)
    have d0' : decide (64 < up.length) = false := decide_eq_false d
    rw [if_neg d]
    generalize hsh : shapeB up Fl.length = sh at HS HIn ⊢
    cases sh with
    | false =>
      rw [if_neg Bool.false_ne_true]
      clear HFi HIn hsh
      go_enter Tryz.func12, Tryz.ntmps12
      go_wp2_with fail
      refine ((HS _ HE0.out).out).mono ?_
      rintro e w1 ⟨rfl, x1⟩
      have X1 := hid (HE0.out.trans x1)
      clear x1 HS
      go_wp2_with fail
      go_ret
      exact ⟨rfl, X1.out⟩
    | true =>
      rw [if_pos rfl]
      obtain ⟨hin, hlen⟩ := HIn.out rfl
      have HFi := fun W (hW : Ext w W) => HFi W hW hlen hin
      clear HIn hsh hin
      rw [hlen] at HE0 HB0 HS ⊢
      clear hlen
      generalize filtersB up Fl = fb at HFi ⊢
      cases fb with
      | true =>
        rw [if_pos rfl]
        go_enter Tryz.func12, Tryz.ntmps12
        go_wp2_with fail
        generalize w.alloc (.cells #[.slice A up.length c, .slice AF up.length cF] 25) = w0 at HE0 HB0 ⊢
        generalize w.heap.size = g at HB0 ⊢
        have z0 := HB0.out.cell (i := 0) (v := .slice A up.length c) rfl
        have z1 := HB0.out.cell (i := 1) (v := .slice AF up.length cF) rfl
        have zl := HB0.out.lt
        refine ((HS _ HE0.out).out).mono ?_
        rintro e w1 ⟨rfl, x1⟩
        have X1 := hid (HE0.out.trans x1)
        have hb := HB0.out.ext x1
        have q0 := hb.cell (i := 0) (v := .slice A up.length c) rfl
        have q1 := hb.cell (i := 1) (v := .slice AF up.length cF) rfl
        have ql := hb.lt
        clear x1 HS hb HB0 z0 z1 zl
        go_wp2_with fail
        refine ((HFi _ X1.out).out).mono ?_
        rintro e w2 ⟨rfl, x2⟩
        have X2 := hid (X1.out.trans x2)
        clear x2 HFi
        go_wp2_with fail
        go_ret
        exact ⟨rfl, X2.out⟩
      | false =>
        rw [if_neg Bool.false_ne_true]
        go_enter Tryz.func12, Tryz.ntmps12
        go_wp2_with fail
        generalize w.alloc (.cells #[.slice A up.length c, .slice AF up.length cF] 25) = w0 at HE0 HB0 ⊢
        generalize w.heap.size = g at HB0 ⊢
        have z0 := HB0.out.cell (i := 0) (v := .slice A up.length c) rfl
        have z1 := HB0.out.cell (i := 1) (v := .slice AF up.length cF) rfl
        have zl := HB0.out.lt
        refine ((HS _ HE0.out).out).mono ?_
        rintro e w1 ⟨rfl, x1⟩
        have X1 := hid (HE0.out.trans x1)
        have hb := HB0.out.ext x1
        have q0 := hb.cell (i := 0) (v := .slice A up.length c) rfl
        have q1 := hb.cell (i := 1) (v := .slice AF up.length cF) rfl
        have ql := hb.lt
        clear x1 HS hb HB0 z0 z1 zl
        go_wp2_with fail
        refine ((HFi _ X1.out).out).mono ?_
        rintro e w2 ⟨rfl, x2⟩
        have X2 := hid (X1.out.trans x2)
        clear x2 HFi
        go_wp2_with fail
        go_ret
        exact ⟨rfl, X2.out⟩
set_option maxRecDepth 100000 in
set_option maxHeartbeats 4000000 in
theorem rcheck28_c (w : World) (up : List Int) (Fl : List (List ClauseI)) (A AF : Option Addr) (c cF : Nat) (hu : Sl w 1 (.slice A up.length c) (Ints up)) (hl : up.length ≤ 1000) (hF : FsAt w AF cF Fl) (hL : ∀ f ∈ Fl, LightF f ∧ f.length ≤ 5000) : Calls Tryz.prog 13 #[.agg #[.slice A up.length c, .slice AF Fl.length cF]] w (Ret (.int .i64 (checkT up Fl)) w) := by
  have HE0 := hid (Ext.alloc w (.cells #[.slice A up.length c, .slice AF Fl.length cF] 25))
  have HB0 := hid (Blk.new w 25 #[.slice A up.length c, .slice AF Fl.length cF])
  have HS := fun W (hW : Ext w W) => hid (rshape_c W up A AF c Fl.length cF (hu.ext hW) hl)
  have HFi := fun W (hW : Ext w W) (hlen : Fl.length = up.length) (hin : UpIn up) => hid (rfilters_c W up Fl A AF c cF (hu.ext hW) hl (hF.ext hW) hlen hin hL)
  have HIn : Hid (shapeB up Fl.length = true → UpIn up ∧ Fl.length = up.length) := shape_in
  unfold checkT
  clear hu hF hL
  by_cases d : 64 < up.length
  · have d0 : decide ((64 : Int) < up.length) = true := decide_eq_true (by omega)
    have d0' : decide (64 < up.length) = true := decide_eq_true d
    rw [if_pos d]
    clear HS HFi HIn
    go_enter Tryz.func13, Tryz.ntmps13
    go_wp2_with fail
    go_ret
    exact ⟨rfl, HE0.out⟩
  · have d0 : decide ((64 : Int) < up.length) = false := decide_eq_false (by omega)
    have d0' : decide (64 < up.length) = false := decide_eq_false d
    rw [if_neg d]
    generalize hsh : shapeB up Fl.length = sh at HS HIn ⊢
    cases sh with
    | false =>
      rw [if_neg Bool.false_ne_true]
      clear HFi HIn hsh
      go_enter Tryz.func13, Tryz.ntmps13
      go_wp2_with fail
      refine ((HS _ HE0.out).out).mono ?_
      rintro e w1 ⟨rfl, x1⟩
      have X1 := hid (HE0.out.trans x1)
      clear x1 HS
      go_wp2_with fail
      go_ret
      exact ⟨rfl, X1.out⟩
    | true =>
      rw [if_pos rfl]
      obtain ⟨hin, hlen⟩ := HIn.out rfl
      have HFi := fun W (hW : Ext w W) => HFi W hW hlen hin
      clear HIn hsh hin
      rw [hlen] at HE0 HB0 HS ⊢
      clear hlen
      generalize filtersB up Fl = fb at HFi ⊢
      cases fb with
      | true =>
        rw [if_pos rfl]
        go_enter Tryz.func13, Tryz.ntmps13
        go_wp2_with fail
        generalize w.alloc (.cells #[.slice A up.length c, .slice AF up.length cF] 25) = w0 at HE0 HB0 ⊢
        generalize w.heap.size = g at HB0 ⊢
        have z0 := HB0.out.cell (i := 0) (v := .slice A up.length c) rfl
        have z1 := HB0.out.cell (i := 1) (v := .slice AF up.length cF) rfl
        have zl := HB0.out.lt
        refine ((HS _ HE0.out).out).mono ?_
        rintro e w1 ⟨rfl, x1⟩
        have X1 := hid (HE0.out.trans x1)
        have hb := HB0.out.ext x1
        have q0 := hb.cell (i := 0) (v := .slice A up.length c) rfl
        have q1 := hb.cell (i := 1) (v := .slice AF up.length cF) rfl
        have ql := hb.lt
        clear x1 HS hb HB0 z0 z1 zl
        go_wp2_with fail
        refine ((HFi _ X1.out).out).mono ?_
        rintro e w2 ⟨rfl, x2⟩
        have X2 := hid (X1.out.trans x2)
        clear x2 HFi
        go_wp2_with fail
        go_ret
        exact ⟨rfl, X2.out⟩
      | false =>
        rw [if_neg Bool.false_ne_true]
        go_enter Tryz.func13, Tryz.ntmps13
        go_wp2_with fail
        generalize w.alloc (.cells #[.slice A up.length c, .slice AF up.length cF] 25) = w0 at HE0 HB0 ⊢
        generalize w.heap.size = g at HB0 ⊢
        have z0 := HB0.out.cell (i := 0) (v := .slice A up.length c) rfl
        have z1 := HB0.out.cell (i := 1) (v := .slice AF up.length cF) rfl
        have zl := HB0.out.lt
        refine ((HS _ HE0.out).out).mono ?_
        rintro e w1 ⟨rfl, x1⟩
        have X1 := hid (HE0.out.trans x1)
        have hb := HB0.out.ext x1
        have q0 := hb.cell (i := 0) (v := .slice A up.length c) rfl
        have q1 := hb.cell (i := 1) (v := .slice AF up.length cF) rfl
        have ql := hb.lt
        clear x1 HS hb HB0 z0 z1 zl
        go_wp2_with fail
        refine ((HFi _ X1.out).out).mono ?_
        rintro e w2 ⟨rfl, x2⟩
        have X2 := hid (X1.out.trans x2)
        clear x2 HFi
        go_wp2_with fail
        go_ret
        exact ⟨rfl, X2.out⟩
end Go.Proofs.YtjnjamhohnnefaaGreatDoor
