/-
  tree.some with its closures: Root, Below, Under, Deepest.
  tree.Root, Below, Deepest, Depth, Linked; the document's Ints.
  tree.Deepest, Depth, Linked; the document's Ints.
-/
import Derived.Test.YtjnjamhohnnefaaGreatDoorPkF
namespace Go.Proofs.YtjnjamhohnnefaaGreatDoor
set_option linter.unusedSimpArgs false
set_option linter.unusedVariables false
open Go.RowKit Go.Sort

theorem int_info : (Tryz.prog.info? 3).map (fun i => (i.zero, i.size, i.bytes)) = some (some (.int .i64 0), 1, 8) := by kernel_rfl
theorem int_elem : Elem Tryz.prog 22 3 1 8 := by
  obtain ⟨i0, h0, h1, h2, h3⟩ := info_parts int_info
  exact ⟨Tryz.underlying22, i0, _, h0, h1, h2, h3, rfl⟩
def intC (z : Int) : List Value := [.int .i64 z]
theorem int_coded : Coded intC 1 := ⟨fun _ => rfl, fun a u hu => by simp [intC] at hu; rcases hu with rfl; rfl⟩
theorem ints_eq (l : List Int) : Ints l = l.map intC := rfl
/-- A tree in memory. -/
structure TreeAt (w : World) (up : List Int) (Fl : List (List ClauseI)) (A AF : Option Addr) (c cF : Nat) : Prop where
  m : ∃ m : Int, w.cell? ⟨0, 0, none⟩ = some (.int .i64 m)
  u : Sl w 1 (.slice A up.length c) (Ints up)
  l : up.length ≤ 1000
  f : FsAt w AF cF Fl
  L : ∀ f ∈ Fl, LightF f ∧ f.length ≤ 5000
theorem TreeAt.ext {w w' : World} {up : List Int} {Fl : List (List ClauseI)} {A AF : Option Addr} {c cF : Nat} (h : TreeAt w up Fl A AF c cF) (he : Ext w w') : TreeAt w' up Fl A AF c cF := ⟨by obtain ⟨m, hm⟩ := h.m; exact ⟨m, he.cell hm⟩, h.u.ext he, h.l, h.f.ext he, h.L⟩
theorem TreeAt.cap {w : World} {up : List Int} {Fl : List (List ClauseI)} {A AF : Option Addr} {c cF : Nat} (h : TreeAt w up Fl A AF c cF) : up.length ≤ c ∧ c ≤ maxLen := by
  obtain ⟨A', c', hv, h2, h3, _⟩ := h.u
  injection hv with hA hn hc
  subst hc
  simp only [Ints, List.length_map] at h2
  exact ⟨h2, h3⟩
/-- The replicas, counted from 1. -/
def nums (n : Nat) : List Int := (List.range n).map fun i : Nat => (i : Int) + 1
theorem nums_len (n : Nat) : (nums n).length = n := by simp [nums]
theorem nums_take {n k : Nat} (h : k < n) : (nums n).take (k + 1) = (nums n).take k ++ [(k : Int) + 1] := by
  have hk : k < (nums n).length := by rw [nums_len]; exact h
  rw [List.take_succ_eq_append_getElem hk]
  congr 2
  simp [nums]
theorem filter_take {P : Int → Bool} {n k : Nat} (h : k < n) : ((nums n).take (k + 1)).filter P = ((nums n).take k).filter P ++ (if P ((k : Int) + 1) then [(k : Int) + 1] else []) := by
  rw [nums_take h, List.filter_append]
  cases hp : P ((k : Int) + 1) with
  | true => rw [List.filter_cons_of_pos hp]; rfl
  | false => rw [List.filter_cons_of_neg (by simp [hp])]; rfl
/-- Which replicas some gives. -/
noncomputable def someT (up : List Int) (Fl : List (List ClauseI)) (P : Int → Bool) : List Int := if checkT up Fl = 0 then (nums up.length).filter P else []
set_option maxRecDepth 100000 in
set_option maxHeartbeats 4000000 in
theorem some_root (w : World) (up : List Int) (Fl : List (List ClauseI)) (A AF : Option Addr) (c cF : Nat) (q : Nat) (h : TreeAt w up Fl A AF c cF) (P : Int → Bool) (HP : ∀ W, Ext w W → ∀ k : Nat, k < up.length → Hid (Calls Tryz.prog 49 #[.int .i64 ((k : Int) + 1), .pointer (some ⟨q, 0, none⟩)] W (Ret (.bool (P ((k : Int) + 1))) W))) : Calls Tryz.prog 48 #[.agg #[.slice A up.length c, .slice AF Fl.length cF], .func (.func 49) #[] #[.pointer (some ⟨q, 0, none⟩)]] w (RetQ (fun v w' => Sl w' 1 v (Ints (someT up Fl P))) w) := by
  have HE0 := hid (Ext.alloc w (.cells #[.slice A up.length c, .slice AF Fl.length cF] 25))
  have HB0 := hid (Blk.new w 25 #[.slice A up.length c, .slice AF Fl.length cF])
  obtain ⟨m, hm⟩ := h.m
  have HCk := fun W (hW : Ext w W) => hid (check_c W up Fl A AF c cF m (hW.cell hm) (h.u.ext hW) h.l (h.f.ext hW) h.L)
  have hl := h.l
  obtain ⟨h1, h2⟩ := h.cap
  unfold maxLen at h2
  unfold someT
  clear hm h
  generalize checkT up Fl = ck at HCk ⊢
  by_cases e0 : ck = 0
  · subst e0
    rw [if_pos rfl]
    go_enter Tryz.func48, Tryz.ntmps48
    go_wp2_with fail
    generalize w.alloc (.cells #[.slice A up.length c, .slice AF Fl.length cF] 25) = w0 at HE0 HB0 ⊢
    generalize hg : w.heap.size = g at HB0 ⊢
    have z0 := HB0.out.cell (i := 0) (v := .slice A up.length c) rfl
    have z1 := HB0.out.cell (i := 1) (v := .slice AF Fl.length cF) rfl
    have zl := HB0.out.lt
    refine ((HCk _ HE0.out).out).mono ?_
    rintro e w1 ⟨rfl, x1⟩
    have X1 := hid (HE0.out.trans x1)
    have HB1 := hid (HB0.out.ext x1)
    have y0 := HB1.out.cell (i := 0) (v := .slice A up.length c) rfl
    have y1 := HB1.out.cell (i := 1) (v := .slice AF Fl.length cF) rfl
    have yl := HB1.out.lt
    clear x1 HCk HB0 z0 z1 zl
    go_wp2_with fail
    go_loopw [5, 14] (fun v i wr => ∃ k : Nat, k ≤ up.length ∧ i = .int .i64 k ∧ Ext w1 wr ∧ wr.ownsRow w1.heap.size 3 1 v (((nums up.length).take k).filter P).length ((((nums up.length).take k).filter P).map intC).flatten) (fun _ i _ => up.length - (intOf i).toNat)
    case atStart => exact ⟨0, by omega, rfl, Ext.refl _, ownsRow_nil _ _ _ _⟩
    case round =>
      obtain ⟨k, hk, rfl, hE, hO⟩ := hrel
      have HE := hid hE
      have HO := hid hO
      clear y0 y1 yl
      by_cases hlt : k < up.length
      · have HC := fun W (hW : Ext wr W) => HP W (X1.out.trans (hE.trans hW)) k hlt
        have HS := hid (filter_take (P := P) hlt)
        have HL : Hid ((((nums up.length).take k).filter P).length ≤ 1000) := by
          have h2 := List.length_filter_le P ((nums up.length).take k)
          rw [List.length_take] at h2
          unfold Hid
          omega
        have hsz : w1.heap.size ≤ wr.heap.size := hE.size
        clear hE hO HP
        generalize ((nums up.length).take k).filter P = acc at HS HL HO
        cases hz : P ((k : Int) + 1) with
        | true =>
          rw [hz] at HC HS
          go_wp2_with fail
          refine ((HC _ (Ext.refl _)).out).mono ?_
          rintro e w2 ⟨rfl, x2⟩
          have X2 := hid (HE.out.trans x2)
          obtain ⟨v', w3, hrun, ho2, hk2, _⟩ := app_one (P := Tryz.prog) int_elem int_coded (ownsRow_ext HO.out x2) (Nat.le_trans hsz x2.size) ((k : Int) + 1) (by have := HL.out; omega) (by omega)
          simp only [intC] at hrun
          have HO2 := hid ho2
          have HE3 : Hid (Ext w1 w3) := hk2.toExt X2.out (fun q hq => (row_block HO.out q hq).1)
          clear ho2 hk2 x2
          go_wp2_with (at_builtin; refine wpList_app rfl (.tmp 21) (.tmp 24) _ _ rfl rfl rfl hrun ?_)
          go_roundw
          case rel => exact ⟨k + 1, by omega, by go_num, HE3.out, by rw [HS.out, if_pos trivial]; exact HO2.out⟩
          case measure => simp [intOf]; omega
        | false =>
          rw [hz] at HC HS
          go_wp2_with fail
          refine ((HC _ (Ext.refl _)).out).mono ?_
          rintro e w2 ⟨rfl, x2⟩
          have X2 := hid x2
          clear x2
          go_wp2_with fail
          go_roundw
          case rel => exact ⟨k + 1, by omega, by go_num, HE.out.trans X2.out, by rw [HS.out, if_neg (by simp), List.append_nil]; exact ownsRow_ext HO.out X2.out⟩
          case measure => simp [intOf]; omega
      · obtain rfl : k = up.length := by omega
        have hn : (nums up.length).take up.length = nums up.length := List.take_of_length_le (by rw [nums_len]; exact Nat.le_refl _)
        rw [hn] at hO
        have HV : Hid (Sl wr 1 u5 (Ints ((nums up.length).filter P))) := by
          have := sl_of_row (xs := ((nums up.length).filter P).map intC) (int_coded.sizes _) (by rw [List.length_map]; exact hO)
          exact this
        clear hE hO HP hn HO
        go_wp2_with fail
        go_ret
        exact ⟨_, rfl, HV.out, X1.out.trans HE.out⟩
  · rw [if_neg e0]
    have d0 : (ck != 0) = true := by simp [e0]
    clear HP e0
    go_enter Tryz.func48, Tryz.ntmps48
    go_wp2_with fail
    refine ((HCk _ HE0.out).out).mono ?_
    rintro e w1 ⟨rfl, x1⟩
    have X1 := hid (HE0.out.trans x1)
    clear x1 HCk
    go_wp2_with fail
    go_ret
    exact ⟨_, rfl, Sl.nil _ _, X1.out⟩
set_option maxRecDepth 100000 in
set_option maxHeartbeats 4000000 in
theorem some_below (w : World) (up : List Int) (Fl : List (List ClauseI)) (A AF : Option Addr) (c cF : Nat) (q q1 : Nat) (h : TreeAt w up Fl A AF c cF) (P : Int → Bool) (HP : ∀ W, Ext w W → ∀ k : Nat, k < up.length → Hid (Calls Tryz.prog 52 #[.int .i64 ((k : Int) + 1), .pointer (some ⟨q1, 0, none⟩), .pointer (some ⟨q, 0, none⟩)] W (Ret (.bool (P ((k : Int) + 1))) W))) : Calls Tryz.prog 48 #[.agg #[.slice A up.length c, .slice AF Fl.length cF], .func (.func 52) #[] #[.pointer (some ⟨q1, 0, none⟩), .pointer (some ⟨q, 0, none⟩)]] w (RetQ (fun v w' => Sl w' 1 v (Ints (someT up Fl P))) w) := by
  have HE0 := hid (Ext.alloc w (.cells #[.slice A up.length c, .slice AF Fl.length cF] 25))
  have HB0 := hid (Blk.new w 25 #[.slice A up.length c, .slice AF Fl.length cF])
  obtain ⟨m, hm⟩ := h.m
  have HCk := fun W (hW : Ext w W) => hid (check_c W up Fl A AF c cF m (hW.cell hm) (h.u.ext hW) h.l (h.f.ext hW) h.L)
  have hl := h.l
  obtain ⟨h1, h2⟩ := h.cap
  unfold maxLen at h2
  unfold someT
  clear hm h
  generalize checkT up Fl = ck at HCk ⊢
  by_cases e0 : ck = 0
  · subst e0
    rw [if_pos rfl]
    go_enter Tryz.func48, Tryz.ntmps48
    go_wp2_with fail
    generalize w.alloc (.cells #[.slice A up.length c, .slice AF Fl.length cF] 25) = w0 at HE0 HB0 ⊢
    generalize hg : w.heap.size = g at HB0 ⊢
    have z0 := HB0.out.cell (i := 0) (v := .slice A up.length c) rfl
    have z1 := HB0.out.cell (i := 1) (v := .slice AF Fl.length cF) rfl
    have zl := HB0.out.lt
    refine ((HCk _ HE0.out).out).mono ?_
    rintro e w1 ⟨rfl, x1⟩
    have X1 := hid (HE0.out.trans x1)
    have HB1 := hid (HB0.out.ext x1)
    have y0 := HB1.out.cell (i := 0) (v := .slice A up.length c) rfl
    have y1 := HB1.out.cell (i := 1) (v := .slice AF Fl.length cF) rfl
    have yl := HB1.out.lt
    clear x1 HCk HB0 z0 z1 zl
    go_wp2_with fail
    go_loopw [5, 14] (fun v i wr => ∃ k : Nat, k ≤ up.length ∧ i = .int .i64 k ∧ Ext w1 wr ∧ wr.ownsRow w1.heap.size 3 1 v (((nums up.length).take k).filter P).length ((((nums up.length).take k).filter P).map intC).flatten) (fun _ i _ => up.length - (intOf i).toNat)
    case atStart => exact ⟨0, by omega, rfl, Ext.refl _, ownsRow_nil _ _ _ _⟩
    case round =>
      obtain ⟨k, hk, rfl, hE, hO⟩ := hrel
      have HE := hid hE
      have HO := hid hO
      clear y0 y1 yl
      by_cases hlt : k < up.length
      · have HC := fun W (hW : Ext wr W) => HP W (X1.out.trans (hE.trans hW)) k hlt
        have HS := hid (filter_take (P := P) hlt)
        have HL : Hid ((((nums up.length).take k).filter P).length ≤ 1000) := by
          have h2 := List.length_filter_le P ((nums up.length).take k)
          rw [List.length_take] at h2
          unfold Hid
          omega
        have hsz : w1.heap.size ≤ wr.heap.size := hE.size
        clear hE hO HP
        generalize ((nums up.length).take k).filter P = acc at HS HL HO
        cases hz : P ((k : Int) + 1) with
        | true =>
          rw [hz] at HC HS
          go_wp2_with fail
          refine ((HC _ (Ext.refl _)).out).mono ?_
          rintro e w2 ⟨rfl, x2⟩
          have X2 := hid (HE.out.trans x2)
          obtain ⟨v', w3, hrun, ho2, hk2, _⟩ := app_one (P := Tryz.prog) int_elem int_coded (ownsRow_ext HO.out x2) (Nat.le_trans hsz x2.size) ((k : Int) + 1) (by have := HL.out; omega) (by omega)
          simp only [intC] at hrun
          have HO2 := hid ho2
          have HE3 : Hid (Ext w1 w3) := hk2.toExt X2.out (fun q hq => (row_block HO.out q hq).1)
          clear ho2 hk2 x2
          go_wp2_with (at_builtin; refine wpList_app rfl (.tmp 21) (.tmp 24) _ _ rfl rfl rfl hrun ?_)
          go_roundw
          case rel => exact ⟨k + 1, by omega, by go_num, HE3.out, by rw [HS.out, if_pos trivial]; exact HO2.out⟩
          case measure => simp [intOf]; omega
        | false =>
          rw [hz] at HC HS
          go_wp2_with fail
          refine ((HC _ (Ext.refl _)).out).mono ?_
          rintro e w2 ⟨rfl, x2⟩
          have X2 := hid x2
          clear x2
          go_wp2_with fail
          go_roundw
          case rel => exact ⟨k + 1, by omega, by go_num, HE.out.trans X2.out, by rw [HS.out, if_neg (by simp), List.append_nil]; exact ownsRow_ext HO.out X2.out⟩
          case measure => simp [intOf]; omega
      · obtain rfl : k = up.length := by omega
        have hn : (nums up.length).take up.length = nums up.length := List.take_of_length_le (by rw [nums_len]; exact Nat.le_refl _)
        rw [hn] at hO
        have HV : Hid (Sl wr 1 u5 (Ints ((nums up.length).filter P))) := by
          have := sl_of_row (xs := ((nums up.length).filter P).map intC) (int_coded.sizes _) (by rw [List.length_map]; exact hO)
          exact this
        clear hE hO HP hn HO
        go_wp2_with fail
        go_ret
        exact ⟨_, rfl, HV.out, X1.out.trans HE.out⟩
  · rw [if_neg e0]
    have d0 : (ck != 0) = true := by simp [e0]
    clear HP e0
    go_enter Tryz.func48, Tryz.ntmps48
    go_wp2_with fail
    refine ((HCk _ HE0.out).out).mono ?_
    rintro e w1 ⟨rfl, x1⟩
    have X1 := hid (HE0.out.trans x1)
    clear x1 HCk
    go_wp2_with fail
    go_ret
    exact ⟨_, rfl, Sl.nil _ _, X1.out⟩
set_option maxRecDepth 100000 in
set_option maxHeartbeats 4000000 in
theorem some_under (w : World) (up : List Int) (Fl : List (List ClauseI)) (A AF : Option Addr) (c cF : Nat) (q q1 : Nat) (h : TreeAt w up Fl A AF c cF) (P : Int → Bool) (HP : ∀ W, Ext w W → ∀ k : Nat, k < up.length → Hid (Calls Tryz.prog 53 #[.int .i64 ((k : Int) + 1), .pointer (some ⟨q1, 0, none⟩), .pointer (some ⟨q, 0, none⟩)] W (Ret (.bool (P ((k : Int) + 1))) W))) : Calls Tryz.prog 48 #[.agg #[.slice A up.length c, .slice AF Fl.length cF], .func (.func 53) #[] #[.pointer (some ⟨q1, 0, none⟩), .pointer (some ⟨q, 0, none⟩)]] w (RetQ (fun v w' => Sl w' 1 v (Ints (someT up Fl P))) w) := by
  have HE0 := hid (Ext.alloc w (.cells #[.slice A up.length c, .slice AF Fl.length cF] 25))
  have HB0 := hid (Blk.new w 25 #[.slice A up.length c, .slice AF Fl.length cF])
  obtain ⟨m, hm⟩ := h.m
  have HCk := fun W (hW : Ext w W) => hid (check_c W up Fl A AF c cF m (hW.cell hm) (h.u.ext hW) h.l (h.f.ext hW) h.L)
  have hl := h.l
  obtain ⟨h1, h2⟩ := h.cap
  unfold maxLen at h2
  unfold someT
  clear hm h
  generalize checkT up Fl = ck at HCk ⊢
  by_cases e0 : ck = 0
  · subst e0
    rw [if_pos rfl]
    go_enter Tryz.func48, Tryz.ntmps48
    go_wp2_with fail
    generalize w.alloc (.cells #[.slice A up.length c, .slice AF Fl.length cF] 25) = w0 at HE0 HB0 ⊢
    generalize hg : w.heap.size = g at HB0 ⊢
    have z0 := HB0.out.cell (i := 0) (v := .slice A up.length c) rfl
    have z1 := HB0.out.cell (i := 1) (v := .slice AF Fl.length cF) rfl
    have zl := HB0.out.lt
    refine ((HCk _ HE0.out).out).mono ?_
    rintro e w1 ⟨rfl, x1⟩
    have X1 := hid (HE0.out.trans x1)
    have HB1 := hid (HB0.out.ext x1)
    have y0 := HB1.out.cell (i := 0) (v := .slice A up.length c) rfl
    have y1 := HB1.out.cell (i := 1) (v := .slice AF Fl.length cF) rfl
    have yl := HB1.out.lt
    clear x1 HCk HB0 z0 z1 zl
    go_wp2_with fail
    go_loopw [5, 14] (fun v i wr => ∃ k : Nat, k ≤ up.length ∧ i = .int .i64 k ∧ Ext w1 wr ∧ wr.ownsRow w1.heap.size 3 1 v (((nums up.length).take k).filter P).length ((((nums up.length).take k).filter P).map intC).flatten) (fun _ i _ => up.length - (intOf i).toNat)
    case atStart => exact ⟨0, by omega, rfl, Ext.refl _, ownsRow_nil _ _ _ _⟩
    case round =>
      obtain ⟨k, hk, rfl, hE, hO⟩ := hrel
      have HE := hid hE
      have HO := hid hO
      clear y0 y1 yl
      by_cases hlt : k < up.length
      · have HC := fun W (hW : Ext wr W) => HP W (X1.out.trans (hE.trans hW)) k hlt
        have HS := hid (filter_take (P := P) hlt)
        have HL : Hid ((((nums up.length).take k).filter P).length ≤ 1000) := by
          have h2 := List.length_filter_le P ((nums up.length).take k)
          rw [List.length_take] at h2
          unfold Hid
          omega
        have hsz : w1.heap.size ≤ wr.heap.size := hE.size
        clear hE hO HP
        generalize ((nums up.length).take k).filter P = acc at HS HL HO
        cases hz : P ((k : Int) + 1) with
        | true =>
          rw [hz] at HC HS
          go_wp2_with fail
          refine ((HC _ (Ext.refl _)).out).mono ?_
          rintro e w2 ⟨rfl, x2⟩
          have X2 := hid (HE.out.trans x2)
          obtain ⟨v', w3, hrun, ho2, hk2, _⟩ := app_one (P := Tryz.prog) int_elem int_coded (ownsRow_ext HO.out x2) (Nat.le_trans hsz x2.size) ((k : Int) + 1) (by have := HL.out; omega) (by omega)
          simp only [intC] at hrun
          have HO2 := hid ho2
          have HE3 : Hid (Ext w1 w3) := hk2.toExt X2.out (fun q hq => (row_block HO.out q hq).1)
          clear ho2 hk2 x2
          go_wp2_with (at_builtin; refine wpList_app rfl (.tmp 21) (.tmp 24) _ _ rfl rfl rfl hrun ?_)
          go_roundw
          case rel => exact ⟨k + 1, by omega, by go_num, HE3.out, by rw [HS.out, if_pos trivial]; exact HO2.out⟩
          case measure => simp [intOf]; omega
        | false =>
          rw [hz] at HC HS
          go_wp2_with fail
          refine ((HC _ (Ext.refl _)).out).mono ?_
          rintro e w2 ⟨rfl, x2⟩
          have X2 := hid x2
          clear x2
          go_wp2_with fail
          go_roundw
          case rel => exact ⟨k + 1, by omega, by go_num, HE.out.trans X2.out, by rw [HS.out, if_neg (by simp), List.append_nil]; exact ownsRow_ext HO.out X2.out⟩
          case measure => simp [intOf]; omega
      · obtain rfl : k = up.length := by omega
        have hn : (nums up.length).take up.length = nums up.length := List.take_of_length_le (by rw [nums_len]; exact Nat.le_refl _)
        rw [hn] at hO
        have HV : Hid (Sl wr 1 u5 (Ints ((nums up.length).filter P))) := by
          have := sl_of_row (xs := ((nums up.length).filter P).map intC) (int_coded.sizes _) (by rw [List.length_map]; exact hO)
          exact this
        clear hE hO HP hn HO
        go_wp2_with fail
        go_ret
        exact ⟨_, rfl, HV.out, X1.out.trans HE.out⟩
  · rw [if_neg e0]
    have d0 : (ck != 0) = true := by simp [e0]
    clear HP e0
    go_enter Tryz.func48, Tryz.ntmps48
    go_wp2_with fail
    refine ((HCk _ HE0.out).out).mono ?_
    rintro e w1 ⟨rfl, x1⟩
    have X1 := hid (HE0.out.trans x1)
    clear x1 HCk
    go_wp2_with fail
    go_ret
    exact ⟨_, rfl, Sl.nil _ _, X1.out⟩
set_option maxRecDepth 100000 in
set_option maxHeartbeats 4000000 in
theorem some_deepest (w : World) (up : List Int) (Fl : List (List ClauseI)) (A AF : Option Addr) (c cF : Nat) (h : TreeAt w up Fl A AF c cF) (P : Int → Bool) (HP : ∀ W, Ext w W → ∀ k : Nat, k < up.length → Hid (Calls Tryz.prog 50 #[.int .i64 ((k : Int) + 1)] W (Ret (.bool (P ((k : Int) + 1))) W))) : Calls Tryz.prog 48 #[.agg #[.slice A up.length c, .slice AF Fl.length cF], .func (.func 50) #[] #[]] w (RetQ (fun v w' => Sl w' 1 v (Ints (someT up Fl P))) w) := by
  have HE0 := hid (Ext.alloc w (.cells #[.slice A up.length c, .slice AF Fl.length cF] 25))
  have HB0 := hid (Blk.new w 25 #[.slice A up.length c, .slice AF Fl.length cF])
  obtain ⟨m, hm⟩ := h.m
  have HCk := fun W (hW : Ext w W) => hid (check_c W up Fl A AF c cF m (hW.cell hm) (h.u.ext hW) h.l (h.f.ext hW) h.L)
  have hl := h.l
  obtain ⟨h1, h2⟩ := h.cap
  unfold maxLen at h2
  unfold someT
  clear hm h
  generalize checkT up Fl = ck at HCk ⊢
  by_cases e0 : ck = 0
  · subst e0
    rw [if_pos rfl]
    go_enter Tryz.func48, Tryz.ntmps48
    go_wp2_with fail
    generalize w.alloc (.cells #[.slice A up.length c, .slice AF Fl.length cF] 25) = w0 at HE0 HB0 ⊢
    generalize hg : w.heap.size = g at HB0 ⊢
    have z0 := HB0.out.cell (i := 0) (v := .slice A up.length c) rfl
    have z1 := HB0.out.cell (i := 1) (v := .slice AF Fl.length cF) rfl
    have zl := HB0.out.lt
    refine ((HCk _ HE0.out).out).mono ?_
    rintro e w1 ⟨rfl, x1⟩
    have X1 := hid (HE0.out.trans x1)
    have HB1 := hid (HB0.out.ext x1)
    have y0 := HB1.out.cell (i := 0) (v := .slice A up.length c) rfl
    have y1 := HB1.out.cell (i := 1) (v := .slice AF Fl.length cF) rfl
    have yl := HB1.out.lt
    clear x1 HCk HB0 z0 z1 zl
    go_wp2_with fail
    go_loopw [5, 14] (fun v i wr => ∃ k : Nat, k ≤ up.length ∧ i = .int .i64 k ∧ Ext w1 wr ∧ wr.ownsRow w1.heap.size 3 1 v (((nums up.length).take k).filter P).length ((((nums up.length).take k).filter P).map intC).flatten) (fun _ i _ => up.length - (intOf i).toNat)
    case atStart => exact ⟨0, by omega, rfl, Ext.refl _, ownsRow_nil _ _ _ _⟩
    case round =>
      obtain ⟨k, hk, rfl, hE, hO⟩ := hrel
      have HE := hid hE
      have HO := hid hO
      clear y0 y1 yl
      by_cases hlt : k < up.length
      · have HC := fun W (hW : Ext wr W) => HP W (X1.out.trans (hE.trans hW)) k hlt
        have HS := hid (filter_take (P := P) hlt)
        have HL : Hid ((((nums up.length).take k).filter P).length ≤ 1000) := by
          have h2 := List.length_filter_le P ((nums up.length).take k)
          rw [List.length_take] at h2
          unfold Hid
          omega
        have hsz : w1.heap.size ≤ wr.heap.size := hE.size
        clear hE hO HP
        generalize ((nums up.length).take k).filter P = acc at HS HL HO
        cases hz : P ((k : Int) + 1) with
        | true =>
          rw [hz] at HC HS
          go_wp2_with fail
          refine ((HC _ (Ext.refl _)).out).mono ?_
          rintro e w2 ⟨rfl, x2⟩
          have X2 := hid (HE.out.trans x2)
          obtain ⟨v', w3, hrun, ho2, hk2, _⟩ := app_one (P := Tryz.prog) int_elem int_coded (ownsRow_ext HO.out x2) (Nat.le_trans hsz x2.size) ((k : Int) + 1) (by have := HL.out; omega) (by omega)
          simp only [intC] at hrun
          have HO2 := hid ho2
          have HE3 : Hid (Ext w1 w3) := hk2.toExt X2.out (fun q hq => (row_block HO.out q hq).1)
          clear ho2 hk2 x2
          go_wp2_with (at_builtin; refine wpList_app rfl (.tmp 21) (.tmp 24) _ _ rfl rfl rfl hrun ?_)
          go_roundw
          case rel => exact ⟨k + 1, by omega, by go_num, HE3.out, by rw [HS.out, if_pos trivial]; exact HO2.out⟩
          case measure => simp [intOf]; omega
        | false =>
          rw [hz] at HC HS
          go_wp2_with fail
          refine ((HC _ (Ext.refl _)).out).mono ?_
          rintro e w2 ⟨rfl, x2⟩
          have X2 := hid x2
          clear x2
          go_wp2_with fail
          go_roundw
          case rel => exact ⟨k + 1, by omega, by go_num, HE.out.trans X2.out, by rw [HS.out, if_neg (by simp), List.append_nil]; exact ownsRow_ext HO.out X2.out⟩
          case measure => simp [intOf]; omega
      · obtain rfl : k = up.length := by omega
        have hn : (nums up.length).take up.length = nums up.length := List.take_of_length_le (by rw [nums_len]; exact Nat.le_refl _)
        rw [hn] at hO
        have HV : Hid (Sl wr 1 u5 (Ints ((nums up.length).filter P))) := by
          have := sl_of_row (xs := ((nums up.length).filter P).map intC) (int_coded.sizes _) (by rw [List.length_map]; exact hO)
          exact this
        clear hE hO HP hn HO
        go_wp2_with fail
        go_ret
        exact ⟨_, rfl, HV.out, X1.out.trans HE.out⟩
  · rw [if_neg e0]
    have d0 : (ck != 0) = true := by simp [e0]
    clear HP e0
    go_enter Tryz.func48, Tryz.ntmps48
    go_wp2_with fail
    refine ((HCk _ HE0.out).out).mono ?_
    rintro e w1 ⟨rfl, x1⟩
    have X1 := hid (HE0.out.trans x1)
    clear x1 HCk
    go_wp2_with fail
    go_ret
    exact ⟨_, rfl, Sl.nil _ _, X1.out⟩
end Go.Proofs.YtjnjamhohnnefaaGreatDoor
namespace Go.Proofs.YtjnjamhohnnefaaGreatDoor
set_option linter.unusedSimpArgs false
set_option linter.unusedVariables false
open Go.RowKit Go.Sort

theorem upAt_at {up : List Int} {k : Nat} (h : k < up.length) : upAt up ((k : Int) + 1) = up[k] := by
  unfold upAt
  rw [show ((k : Int) + 1 - 1).toNat = k by omega, List.getD_eq_getElem?_getD, List.getElem?_eq_getElem h]; rfl
set_option maxRecDepth 100000 in
set_option maxHeartbeats 1000000 in
theorem root1_c (w : World) (up : List Int) (A AF : Option Addr) (c nF cF q : Nat) (hb : Blk w q 25 #[.slice A up.length c, .slice AF nF cF]) (hu : Sl w 1 (.slice A up.length c) (Ints up)) (hl : up.length ≤ 1000) (k : Nat) (hk : k < up.length) : Calls Tryz.prog 49 #[.int .i64 ((k : Int) + 1), .pointer (some ⟨q, 0, none⟩)] w (Ret (.bool (upAt up ((k : Int) + 1) == 0)) w) := by
  rw [upAt_at hk]
  obtain ⟨A', c', hv, h1, h2, h3⟩ := hu
  injection hv with hA hn hc
  subst hA hc
  clear hn
  simp only [Ints, List.length_map] at h1 h3
  unfold maxLen at h2
  obtain ⟨b, o, rfl, lb, hcell⟩ := h3 (by omega)
  have c0 := hcell k [.int .i64 up[k]] 0 (.int .i64 up[k]) (by simp [hk]) rfl
  simp only [Nat.mul_one, Nat.add_zero] at c0
  have q0 := hb.cell (i := 0) (v := .slice (some ⟨b, o, none⟩) up.length c) rfl
  have ql := hb.lt
  clear hcell h3 hb
  generalize up[k] = z at c0 ⊢
  go_enter Tryz.func49, Tryz.ntmps49
  go_wp2_with fail
  go_ret
  exact ⟨rfl, Ext.refl _⟩
set_option maxRecDepth 100000 in
set_option maxHeartbeats 1000000 in
theorem below1_c (w : World) (up : List Int) (A AF : Option Addr) (c nF cF q q1 : Nat) (r : Int) (hb : Blk w q 25 #[.slice A up.length c, .slice AF nF cF]) (hr : Blk w q1 3 #[.int .i64 r]) (hu : Sl w 1 (.slice A up.length c) (Ints up)) (hl : up.length ≤ 1000) (k : Nat) (hk : k < up.length) : Calls Tryz.prog 52 #[.int .i64 ((k : Int) + 1), .pointer (some ⟨q1, 0, none⟩), .pointer (some ⟨q, 0, none⟩)] w (Ret (.bool (decide (1 ≤ r) && upAt up ((k : Int) + 1) == r)) w) := by
  rw [upAt_at hk]
  obtain ⟨A', c', hv, h1, h2, h3⟩ := hu
  injection hv with hA hn hc
  subst hA hc
  clear hn
  simp only [Ints, List.length_map] at h1 h3
  unfold maxLen at h2
  obtain ⟨b, o, rfl, lb, hcell⟩ := h3 (by omega)
  have c0 := hcell k [.int .i64 up[k]] 0 (.int .i64 up[k]) (by simp [hk]) rfl
  simp only [Nat.mul_one, Nat.add_zero] at c0
  have q0 := hb.cell (i := 0) (v := .slice (some ⟨b, o, none⟩) up.length c) rfl
  have ql := hb.lt
  have r0 := hr.cell (i := 0) (v := .int .i64 r) rfl
  have rl := hr.lt
  clear hcell h3 hb hr
  generalize up[k] = z at c0 ⊢
  cases d1 : decide (1 ≤ r) with
  | false =>
    go_enter Tryz.func52, Tryz.ntmps52
    go_wp2_with fail
    refine wp_region_any_order (by kernel_rfl) (by kernel_rfl) (by kernel_rfl) ?_
    repeat (first
      | (refine AWq.val rfl rfl rfl rfl (fun K hK => ?_); go_big_quiet_op; refine hK _ ?_; clear hK K)
      | (refine AWq.skip rfl rfl rfl ?_; simp only [Act.put, List.setIfInBounds_toArray, List.set_cons_succ, List.set_cons_zero]))
    refine AWq.done rfl rfl rfl (fun w2 x2 => ?_)
    simp only [closeAny, Act.put, List.setIfInBounds_toArray, List.set_cons_succ, List.set_cons_zero]
    go_wp2_with fail
    go_ret
    exact ⟨rfl, x2⟩
  | true =>
    go_enter Tryz.func52, Tryz.ntmps52
    go_wp2_with fail
    refine wp_region_any_order (by kernel_rfl) (by kernel_rfl) (by kernel_rfl) ?_
    repeat (first
      | (refine AWq.val rfl rfl rfl rfl (fun K hK => ?_); go_big_quiet_op; refine hK _ ?_; clear hK K)
      | (refine AWq.skip rfl rfl rfl ?_; simp only [Act.put, List.setIfInBounds_toArray, List.set_cons_succ, List.set_cons_zero]))
    refine AWq.done rfl rfl rfl (fun w2 x2 => ?_)
    simp only [closeAny, Act.put, List.setIfInBounds_toArray, List.set_cons_succ, List.set_cons_zero]
    go_wp2_with fail
    go_ret
    exact ⟨rfl, x2⟩
set_option maxHeartbeats 1000000 in
theorem deepest1_c (w : World) (k : Nat) : Calls Tryz.prog 50 #[.int .i64 ((k : Int) + 1)] w (Ret (.bool true) w) := by
  go_enter Tryz.func50, Tryz.ntmps50
  go_wp2_with fail
  go_ret
  exact ⟨rfl, Ext.refl _⟩
/-- The root. -/
noncomputable def rootT (up : List Int) (Fl : List (List ClauseI)) : Int := (someT up Fl fun r => upAt up r == 0).headD 0
set_option maxRecDepth 100000 in
set_option maxHeartbeats 4000000 in
theorem root_c (w : World) (up : List Int) (Fl : List (List ClauseI)) (A AF : Option Addr) (c cF : Nat) (h : TreeAt w up Fl A AF c cF) : Calls Tryz.prog 21 #[.agg #[.slice A up.length c, .slice AF Fl.length cF]] w (Ret (.int .i64 (rootT up Fl)) w) := by
  have HE0 := hid (Ext.alloc w (.cells #[.slice A up.length c, .slice AF Fl.length cF] 25))
  have HB0 := hid (Blk.new w 25 #[.slice A up.length c, .slice AF Fl.length cF])
  have HSm := fun W (hW : Ext w W) q (hq : Blk W q 25 #[.slice A up.length c, .slice AF Fl.length cF]) => hid (some_root W up Fl A AF c cF q (h.ext hW) (fun r => upAt up r == 0) (fun W' hW' k hk => hid (root1_c W' up A AF c Fl.length cF q (hq.ext hW') (h.u.ext (hW.trans hW')) h.l k hk)))
  unfold rootT
  generalize (someT up Fl fun r => upAt up r == 0) = l at HSm ⊢
  clear h
  go_enter Tryz.func21, Tryz.ntmps21
  go_wp2_with fail
  generalize w.alloc (.cells #[.slice A up.length c, .slice AF Fl.length cF] 25) = w0 at HE0 HB0 ⊢
  generalize w.heap.size = g at HB0 ⊢
  have z0 := HB0.out.cell (i := 0) (v := .slice A up.length c) rfl
  have z1 := HB0.out.cell (i := 1) (v := .slice AF Fl.length cF) rfl
  have zl := HB0.out.lt
  refine ((HSm _ HE0.out _ HB0.out).out).mono ?_
  rintro e w1 ⟨v1, rfl, hv1, x1⟩
  have X1 := hid (HE0.out.trans x1)
  clear x1 HSm
  obtain ⟨A1, c1, rfl, p1, p2, p3⟩ := hv1
  simp only [Ints, List.length_map] at p1 p3 ⊢
  unfold maxLen at p2
  cases l with
  | nil =>
    go_wp2_with fail
    go_loopw [9] (fun i wr => i = .int .i64 0 ∧ wr = w1) (fun _ _ => 0)
    case atStart => exact ⟨rfl, rfl⟩
    case round =>
      obtain ⟨rfl, rfl⟩ := hrel
      go_wp2_with fail
      go_ret
      exact ⟨rfl, X1.out⟩
  | cons z t =>
    obtain ⟨b, o, rfl, lb, hcell⟩ := p3 (by simp)
    have c0 := hcell 0 [.int .i64 z] 0 (.int .i64 z) rfl rfl
    simp only [Nat.mul_one, Nat.add_zero] at c0
    clear hcell p3
    go_wp2_with fail
    go_loopw [9] (fun i wr => i = .int .i64 0 ∧ wr = w1) (fun _ _ => 0)
    case atStart => exact ⟨rfl, rfl⟩
    case round =>
      obtain ⟨rfl, rfl⟩ := hrel
      go_wp2_with fail
      go_ret
      exact ⟨rfl, X1.out⟩
/-- The replicas that hang on one. -/
noncomputable def belowT (up : List Int) (Fl : List (List ClauseI)) (r : Int) : List Int := someT up Fl fun i => decide (1 ≤ r) && upAt up i == r
set_option maxRecDepth 100000 in
set_option maxHeartbeats 4000000 in
theorem below_c (w : World) (up : List Int) (Fl : List (List ClauseI)) (A AF : Option Addr) (c cF : Nat) (r : Int) (h : TreeAt w up Fl A AF c cF) : Calls Tryz.prog 25 #[.agg #[.slice A up.length c, .slice AF Fl.length cF], .int .i64 r] w (RetQ (fun v w' => Sl w' 1 v (Ints (belowT up Fl r))) w) := by
  have HE0 := hid (Ext.alloc w (.cells #[.slice A up.length c, .slice AF Fl.length cF] 25))
  have HB0 := hid (Blk.new w 25 #[.slice A up.length c, .slice AF Fl.length cF])
  have HSm := fun W (hW : Ext w W) q q1 (hq : Blk W q 25 #[.slice A up.length c, .slice AF Fl.length cF]) (hr : Blk W q1 3 #[.int .i64 r]) => hid (some_below W up Fl A AF c cF q q1 (h.ext hW) (fun i => decide (1 ≤ r) && upAt up i == r) (fun W' hW' k hk => hid (below1_c W' up A AF c Fl.length cF q q1 r (hq.ext hW') (hr.ext hW') (h.u.ext (hW.trans hW')) h.l k hk)))
  unfold belowT
  generalize (someT up Fl fun i => decide (1 ≤ r) && upAt up i == r) = l at HSm ⊢
  clear h
  have HE1 := hid (HE0.out.alloc' (.cells #[.int .i64 r] 3))
  have HB1 := hid (HB0.out.ext (Ext.alloc _ (.cells #[.int .i64 r] 3)))
  have HR1 := hid (Blk.new (w.alloc (.cells #[.slice A up.length c, .slice AF Fl.length cF] 25)) 3 #[.int .i64 r])
  rw [World.size_alloc] at HR1
  go_enter Tryz.func25, Tryz.ntmps25
  go_wp2_with fail
  generalize (w.alloc (.cells #[.slice A up.length c, .slice AF Fl.length cF] 25)).alloc (.cells #[.int .i64 r] 3) = w0 at HE1 HB1 HR1 ⊢
  refine ((HSm _ HE1.out _ _ HB1.out HR1.out).out).mono ?_
  rintro e w1 ⟨v1, rfl, hv1, x1⟩
  have X1 := hid (HE1.out.trans x1)
  have HV := hid hv1
  clear x1 HSm hv1
  go_wp2_with fail
  go_ret
  exact ⟨_, rfl, HV.out, X1.out⟩
end Go.Proofs.YtjnjamhohnnefaaGreatDoor
namespace Go.Proofs.YtjnjamhohnnefaaGreatDoor
set_option linter.unusedSimpArgs false
set_option linter.unusedVariables false
open Go.RowKit Go.Sort

theorem check_zero {up : List Int} {Fl : List (List ClauseI)} (h : checkT up Fl = 0) : up.length ≤ 64 ∧ shapeB up Fl.length = true ∧ filtersB up Fl = true := by
  unfold checkT at h
  by_cases h1 : 64 < up.length
  · rw [if_pos h1] at h; exact absurd h (by decide)
  · rw [if_neg h1] at h
    by_cases h2 : shapeB up Fl.length = true
    · rw [if_pos h2] at h
      by_cases h3 : filtersB up Fl = true
      · exact ⟨by omega, h2, h3⟩
      · rw [if_neg h3] at h; exact absurd h (by decide)
    · rw [if_neg h2] at h; exact absurd h (by decide)
theorem shape_climb {up : List Int} {nF : Nat} (h : shapeB up nF = true) {r : Int} (h1 : 1 ≤ r) (h2 : r ≤ up.length) : ∃ k, climb up (up.length + 1) r = some k := by
  unfold shapeB at h
  rw [Bool.and_eq_true, List.all_eq_true] at h
  have h3 := h.1 (r - 1).toNat (List.mem_range.2 (by omega))
  rw [show (((r - 1).toNat : Nat) : Int) + 1 = r by omega] at h3
  exact Option.isSome_iff_exists.1 h3
theorem mem_nums {n : Nat} {r : Int} : r ∈ nums n ↔ 1 ≤ r ∧ r ≤ n := by
  unfold nums
  rw [List.mem_map]
  constructor
  · rintro ⟨i, hi, rfl⟩
    have := List.mem_range.1 hi
    omega
  · intro h
    exact ⟨(r - 1).toNat, List.mem_range.2 (by omega), by omega⟩
theorem some_climb {up : List Int} {Fl : List (List ClauseI)} {P : Int → Bool} {r : Int} (h : r ∈ someT up Fl P) : ∃ k, climb up (up.length + 1) r = some k := by
  unfold someT at h
  by_cases h0 : checkT up Fl = 0
  · rw [if_pos h0] at h
    have := mem_nums.1 (List.mem_filter.1 h).1
    exact shape_climb (check_zero h0).2.1 this.1 this.2
  · rw [if_neg h0] at h; cases h
theorem some_len (up : List Int) (Fl : List (List ClauseI)) (P : Int → Bool) : (someT up Fl P).length ≤ up.length := by
  unfold someT
  by_cases h0 : checkT up Fl = 0
  · rw [if_pos h0]
    have := List.length_filter_le P (nums up.length)
    rw [nums_len] at this
    exact this
  · rw [if_neg h0]; exact Nat.zero_le _
/-- How deep it goes. -/
noncomputable def deepT (up : List Int) (Fl : List (List ClauseI)) : Int := (someT up Fl fun _ => true).foldl (fun d r => max d (stepsZ up r)) 0
theorem fold_take {α β : Type} (f : β → α → β) (z : β) (l : List α) (k : Nat) (h : k < l.length) : (l.take (k + 1)).foldl f z = f ((l.take k).foldl f z) l[k] := by
  rw [List.take_succ_eq_append_getElem h, List.foldl_append]; rfl
set_option maxRecDepth 100000 in
set_option maxHeartbeats 4000000 in
theorem deepest_c (w : World) (up : List Int) (Fl : List (List ClauseI)) (A AF : Option Addr) (c cF : Nat) (h : TreeAt w up Fl A AF c cF) : Calls Tryz.prog 22 #[.agg #[.slice A up.length c, .slice AF Fl.length cF]] w (Ret (.int .i64 (deepT up Fl)) w) := by
  have HE0 := hid (Ext.alloc w (.cells #[.slice A up.length c, .slice AF Fl.length cF] 25))
  have HB0 := hid (Blk.new w 25 #[.slice A up.length c, .slice AF Fl.length cF])
  have HSm := fun W (hW : Ext w W) => hid (some_deepest W up Fl A AF c cF (h.ext hW) (fun _ => true) (fun W' hW' k hk => hid (deepest1_c W' k)))
  have HSt := fun W (hW : Ext w W) r => hid (steps_c W up A AF c Fl.length cF r (h.u.ext hW) h.l)
  have HCl : Hid (∀ r ∈ someT up Fl (fun _ => true), ∃ k, climb up (up.length + 1) r = some k) := fun r hr => some_climb hr
  have HLn : (someT up Fl (fun _ => true)).length ≤ 1000 := Nat.le_trans (some_len _ _ _) h.l
  unfold deepT
  generalize (someT up Fl fun _ => true) = l at HSm HCl HLn ⊢
  clear h
  go_enter Tryz.func22, Tryz.ntmps22
  go_wp2_with fail
  generalize w.alloc (.cells #[.slice A up.length c, .slice AF Fl.length cF] 25) = w0 at HE0 HB0 ⊢
  generalize w.heap.size = g at HB0 ⊢
  have z0 := HB0.out.cell (i := 0) (v := .slice A up.length c) rfl
  have z1 := HB0.out.cell (i := 1) (v := .slice AF Fl.length cF) rfl
  have zl := HB0.out.lt
  refine ((HSm _ HE0.out).out).mono ?_
  rintro e w1 ⟨v1, rfl, hv1, x1⟩
  have X1 := hid (HE0.out.trans x1)
  have HB1 := hid (HB0.out.ext x1)
  clear x1 HSm HB0 z0 z1 zl
  obtain ⟨A1, c1, rfl, p1, p2, p3⟩ := hv1
  simp only [Ints, List.length_map] at p1 p3 ⊢
  unfold maxLen at p2
  go_wp2_with fail
  go_loopw [3, 11] (fun d i wr => ∃ k : Nat, k ≤ l.length ∧ i = .int .i64 k ∧ d = .int .i64 ((l.take k).foldl (fun d r => max d (stepsZ up r)) 0) ∧ Ext w1 wr) (fun _ i _ => l.length - (intOf i).toNat)
  case atStart => exact ⟨0, by omega, rfl, rfl, Ext.refl _⟩
  case round =>
    obtain ⟨k, hk, rfl, rfl, hE⟩ := hrel
    have HE := hid hE
    by_cases hlt : k < l.length
    · obtain ⟨b, o, rfl, lb, hcell⟩ := p3 (by omega)
      have c0 := hE.cell (hcell k [.int .i64 l[k]] 0 (.int .i64 l[k]) (by simp [hlt]) rfl)
      simp only [Nat.mul_one, Nat.add_zero] at c0
      have lbr := Nat.lt_of_lt_of_le lb hE.size
      have hb := HB1.out.ext hE
      have q0 := hb.cell (i := 0) (v := .slice A up.length c) rfl
      have q1 := hb.cell (i := 1) (v := .slice AF Fl.length cF) rfl
      have ql := hb.lt
      obtain ⟨n, hn⟩ := HCl.out _ (List.getElem_mem hlt)
      have HF := hid (fold_take (fun d r => max d (stepsZ up r)) 0 l k hlt)
      have hS := HSt _ (X1.out.trans hE) l[k]
      rw [stepsZ_some hn] at HF
      have HN := hid hn
      clear hcell p3 hE hb hn HSt HCl
      generalize (l.take k).foldl (fun d r => max d (stepsZ up r)) 0 = d at HF ⊢
      generalize l[k] = z at c0 hS HN
      go_wp2_with fail
      refine (hS.out).mono ?_
      rintro e w2 ⟨v2, rfl, ⟨n', ok, rfl, hs1, _⟩, x2⟩
      obtain ⟨rfl, rfl⟩ := hs1 n HN.out
      have X2 := hid (HE.out.trans x2)
      clear x2 hS hs1 HN
      go_wp2_with fail
      go_roundw
      case rel => exact ⟨k + 1, by omega, by go_num, by rw [HF.out], X2.out⟩
      case measure => simp [intOf]; omega
    · obtain rfl : k = l.length := by omega
      rw [List.take_length]
      clear hE p3 HCl HSt
      go_wp2_with fail
      go_ret
      exact ⟨rfl, X1.out.trans HE.out⟩
/-- How deep a replica is. -/
noncomputable def depthT (up : List Int) (Fl : List (List ClauseI)) (r : Int) : Int := if checkT up Fl = 0 ∧ inT up.length r = true then stepsZ up r else 0
set_option maxRecDepth 100000 in
set_option maxHeartbeats 4000000 in
theorem depth_c (w : World) (up : List Int) (Fl : List (List ClauseI)) (A AF : Option Addr) (c cF : Nat) (r : Int) (h : TreeAt w up Fl A AF c cF) : Calls Tryz.prog 23 #[.agg #[.slice A up.length c, .slice AF Fl.length cF], .int .i64 r] w (Ret (.int .i64 (depthT up Fl r)) w) := by
  have HE0 := hid (Ext.alloc w (.cells #[.slice A up.length c, .slice AF Fl.length cF] 25))
  have HB0 := hid (Blk.new w 25 #[.slice A up.length c, .slice AF Fl.length cF])
  obtain ⟨m, hm⟩ := h.m
  have HCk := fun W (hW : Ext w W) => hid (check_c W up Fl A AF c cF m (hW.cell hm) (h.u.ext hW) h.l (h.f.ext hW) h.L)
  have HT := fun W r => hid (there_c W A AF up.length c Fl.length cF r)
  have HSt := fun W (hW : Ext w W) r => hid (steps_c W up A AF c Fl.length cF r (h.u.ext hW) h.l)
  have HCl : Hid (checkT up Fl = 0 → inT up.length r = true → ∃ k, climb up (up.length + 1) r = some k) := fun h1 h2 => shape_climb (check_zero h1).2.1 (inT_iff.1 h2).1 (inT_iff.1 h2).2
  have hl := h.l
  obtain ⟨h1, h2⟩ := h.cap
  unfold maxLen at h2
  unfold depthT
  clear hm h
  generalize checkT up Fl = ck at HCk HCl ⊢
  by_cases e0 : ck = 0
  · subst e0
    cases hin : inT up.length r with
    | true =>
      obtain ⟨n, hn⟩ := HCl.out rfl hin
      rw [if_pos ⟨rfl, rfl⟩, stepsZ_some hn]
      have HN := hid hn
      clear HCl hn
      go_enter Tryz.func23, Tryz.ntmps23
      go_wp2_with fail
      generalize w.alloc (.cells #[.slice A up.length c, .slice AF Fl.length cF] 25) = w0 at HE0 HB0 ⊢
      generalize w.heap.size = g at HB0 ⊢
      have z0 := HB0.out.cell (i := 0) (v := .slice A up.length c) rfl
      have z1 := HB0.out.cell (i := 1) (v := .slice AF Fl.length cF) rfl
      have zl := HB0.out.lt
      refine ((HCk _ HE0.out).out).mono ?_
      rintro e w1 ⟨rfl, x1⟩
      have X1 := hid (HE0.out.trans x1)
      have HB1 := hid (HB0.out.ext x1)
      have a1 := HB1.out.cell (i := 0) (v := .slice A up.length c) rfl
      have b1 := HB1.out.cell (i := 1) (v := .slice AF Fl.length cF) rfl
      have l1 := HB1.out.lt
      clear x1 HCk HB0 z0 z1 zl
      go_wp2_with fail
      refine ((HT _ _).out).mono ?_
      rintro e w2 ⟨rfl, x2⟩
      have X2 := hid (X1.out.trans x2)
      rw [hin]
      have HB2 := hid (HB1.out.ext x2)
      have a2 := HB2.out.cell (i := 0) (v := .slice A up.length c) rfl
      have b2 := HB2.out.cell (i := 1) (v := .slice AF Fl.length cF) rfl
      have l2 := HB2.out.lt
      clear x2 HT hin HB1 a1 b1 l1
      go_wp2_with fail
      refine ((HSt _ X2.out _).out).mono ?_
      rintro e w3 ⟨v3, rfl, ⟨n', ok, rfl, hs1, _⟩, x3⟩
      obtain ⟨rfl, rfl⟩ := hs1 n HN.out
      have X3 := hid (X2.out.trans x3)
      clear x3 hs1 HN HSt
      go_wp2_with fail
      go_ret
      exact ⟨rfl, X3.out⟩
    | false =>
      rw [if_neg (by rintro ⟨_, h⟩; cases h)]
      clear HCl HSt
      go_enter Tryz.func23, Tryz.ntmps23
      go_wp2_with fail
      generalize w.alloc (.cells #[.slice A up.length c, .slice AF Fl.length cF] 25) = w0 at HE0 HB0 ⊢
      generalize w.heap.size = g at HB0 ⊢
      have z0 := HB0.out.cell (i := 0) (v := .slice A up.length c) rfl
      have z1 := HB0.out.cell (i := 1) (v := .slice AF Fl.length cF) rfl
      have zl := HB0.out.lt
      refine ((HCk _ HE0.out).out).mono ?_
      rintro e w1 ⟨rfl, x1⟩
      have X1 := hid (HE0.out.trans x1)
      have HB1 := hid (HB0.out.ext x1)
      have a1 := HB1.out.cell (i := 0) (v := .slice A up.length c) rfl
      have b1 := HB1.out.cell (i := 1) (v := .slice AF Fl.length cF) rfl
      have l1 := HB1.out.lt
      clear x1 HCk HB0 z0 z1 zl
      go_wp2_with fail
      refine ((HT _ _).out).mono ?_
      rintro e w2 ⟨rfl, x2⟩
      have X2 := hid (X1.out.trans x2)
      rw [hin]
      clear x2 HT hin HB1 a1 b1 l1
      go_wp2_with fail
      go_ret
      exact ⟨rfl, X2.out⟩
  · rw [if_neg (by rintro ⟨h, _⟩; exact e0 h)]
    have d0 : (ck != 0) = true := by simp [e0]
    clear e0 HCl HSt HT
    go_enter Tryz.func23, Tryz.ntmps23
    go_wp2_with fail
    generalize w.alloc (.cells #[.slice A up.length c, .slice AF Fl.length cF] 25) = w0 at HE0 HB0 ⊢
    generalize w.heap.size = g at HB0 ⊢
    have z0 := HB0.out.cell (i := 0) (v := .slice A up.length c) rfl
    have z1 := HB0.out.cell (i := 1) (v := .slice AF Fl.length cF) rfl
    have zl := HB0.out.lt
    refine ((HCk _ HE0.out).out).mono ?_
    rintro e w1 ⟨rfl, x1⟩
    have X1 := hid (HE0.out.trans x1)
    clear x1 HCk HB0 z0 z1 zl
    go_wp2_with fail
    go_ret
    exact ⟨rfl, X1.out⟩
/-- Are two linked? -/
noncomputable def linkT (up : List Int) (Fl : List (List ClauseI)) (a b : Int) : Bool := (checkT up Fl == 0) && (inT up.length a && (inT up.length b && (upAt up a == b || upAt up b == a)))
set_option maxRecDepth 100000 in
set_option maxHeartbeats 4000000 in
theorem linked_c (w : World) (up : List Int) (Fl : List (List ClauseI)) (A AF : Option Addr) (c cF : Nat) (r s : Int) (h : TreeAt w up Fl A AF c cF) : Calls Tryz.prog 27 #[.agg #[.slice A up.length c, .slice AF Fl.length cF], .int .i64 r, .int .i64 s] w (Ret (.bool (linkT up Fl r s)) w) := by
  have HE0 := hid (Ext.alloc w (.cells #[.slice A up.length c, .slice AF Fl.length cF] 25))
  have HB0 := hid (Blk.new w 25 #[.slice A up.length c, .slice AF Fl.length cF])
  obtain ⟨m, hm⟩ := h.m
  have HCk := fun W (hW : Ext w W) => hid (check_c W up Fl A AF c cF m (hW.cell hm) (h.u.ext hW) h.l (h.f.ext hW) h.L)
  have HT := fun W r => hid (there_c W A AF up.length c Fl.length cF r)
  have hl := h.l
  obtain ⟨h1, h2⟩ := h.cap
  unfold maxLen at h2
  have hu := h.u
  unfold linkT
  clear hm h
  generalize checkT up Fl = ck at HCk ⊢
  cases e0 : ck == 0 with
  | false =>
    rw [Bool.false_and]
    clear HT
    go_enter Tryz.func27, Tryz.ntmps27
    go_wp2_with fail
    generalize w.alloc (.cells #[.slice A up.length c, .slice AF Fl.length cF] 25) = w0 at HE0 HB0 ⊢
    generalize w.heap.size = g at HB0 ⊢
    have z0 := HB0.out.cell (i := 0) (v := .slice A up.length c) rfl
    have z1 := HB0.out.cell (i := 1) (v := .slice AF Fl.length cF) rfl
    have zl := HB0.out.lt
    refine ((HCk _ HE0.out).out).mono ?_
    rintro e w1 ⟨rfl, x1⟩
    have X1 := hid (HE0.out.trans x1)
    clear x1 HCk HB0 z0 z1 zl
    go_wp2_with fail
    go_ret
    exact ⟨rfl, X1.out⟩
  | true =>
    obtain rfl : ck = 0 := by simpa using e0
    rw [Bool.true_and]
    cases hr : inT up.length r with
    | false =>
      rw [Bool.false_and]
      go_enter Tryz.func27, Tryz.ntmps27
      go_wp2_with fail
      generalize w.alloc (.cells #[.slice A up.length c, .slice AF Fl.length cF] 25) = w0 at HE0 HB0 ⊢
      generalize w.heap.size = g at HB0 ⊢
      have z0 := HB0.out.cell (i := 0) (v := .slice A up.length c) rfl
      have z1 := HB0.out.cell (i := 1) (v := .slice AF Fl.length cF) rfl
      have zl := HB0.out.lt
      refine ((HCk _ HE0.out).out).mono ?_
      rintro e w1 ⟨rfl, x1⟩
      have X1 := hid (HE0.out.trans x1)
      have HB1 := hid (HB0.out.ext x1)
      have a1 := HB1.out.cell (i := 0) (v := .slice A up.length c) rfl
      have b1 := HB1.out.cell (i := 1) (v := .slice AF Fl.length cF) rfl
      have l1 := HB1.out.lt
      clear x1 HCk HB0 z0 z1 zl
      go_wp2_with fail
      refine ((HT _ _).out).mono ?_
      rintro e w2 ⟨rfl, x2⟩
      have X2 := hid (X1.out.trans x2)
      rw [hr]
      clear x2 HT hr HB1 a1 b1 l1
      go_wp2_with fail
      go_ret
      exact ⟨rfl, X2.out⟩
    | true =>
      rw [Bool.true_and]
      cases hs : inT up.length s with
      | false =>
        rw [Bool.false_and]
        go_enter Tryz.func27, Tryz.ntmps27
        go_wp2_with fail
        generalize w.alloc (.cells #[.slice A up.length c, .slice AF Fl.length cF] 25) = w0 at HE0 HB0 ⊢
        generalize w.heap.size = g at HB0 ⊢
        have z0 := HB0.out.cell (i := 0) (v := .slice A up.length c) rfl
        have z1 := HB0.out.cell (i := 1) (v := .slice AF Fl.length cF) rfl
        have zl := HB0.out.lt
        refine ((HCk _ HE0.out).out).mono ?_
        rintro e w1 ⟨rfl, x1⟩
        have X1 := hid (HE0.out.trans x1)
        have HB1 := hid (HB0.out.ext x1)
        have a1 := HB1.out.cell (i := 0) (v := .slice A up.length c) rfl
        have b1 := HB1.out.cell (i := 1) (v := .slice AF Fl.length cF) rfl
        have l1 := HB1.out.lt
        clear x1 HCk HB0 z0 z1 zl
        go_wp2_with fail
        refine ((HT _ _).out).mono ?_
        rintro e w2 ⟨rfl, x2⟩
        have X2 := hid (X1.out.trans x2)
        rw [hr]
        have HB2 := hid (HB1.out.ext x2)
        have a2 := HB2.out.cell (i := 0) (v := .slice A up.length c) rfl
        have b2 := HB2.out.cell (i := 1) (v := .slice AF Fl.length cF) rfl
        have l2 := HB2.out.lt
        clear x2 hr HB1 a1 b1 l1
        go_wp2_with fail
        refine ((HT _ _).out).mono ?_
        rintro e w3 ⟨rfl, x3⟩
        have X3 := hid (X2.out.trans x3)
        rw [hs]
        clear x3 HT hs HB2 a2 b2 l2
        go_wp2_with fail
        go_ret
        exact ⟨rfl, X3.out⟩
      | true =>
        rw [Bool.true_and]
        obtain ⟨k, hk, hrk, hupk⟩ := upAt_get (inT_iff.1 hr)
        have hupk := hupk hk
        obtain rfl : r = (k : Int) + 1 := by omega
        obtain ⟨j, hj, hsj, hupj⟩ := upAt_get (inT_iff.1 hs)
        have hupj := hupj hj
        obtain rfl : s = (j : Int) + 1 := by omega
        obtain ⟨A', c', hv, p1, p2, p3⟩ := hu
        injection hv with hA hn hc
        subst hA hc
        clear hn
        simp only [Ints, List.length_map] at p1 p3
        obtain ⟨b, o, rfl, lb, hcell⟩ := p3 (by omega)
        have ck0 := hcell k [.int .i64 up[k]] 0 (.int .i64 up[k]) (by simp [hk]) rfl
        have cj0 := hcell j [.int .i64 up[j]] 0 (.int .i64 up[j]) (by simp [hj]) rfl
        simp only [Nat.mul_one, Nat.add_zero] at ck0 cj0
        rw [hupk, hupj]
        clear hcell p3 p1 p2 hupk hupj hrk hsj e0
        generalize up[k] = zk at ck0 ⊢
        generalize up[j] = zj at cj0 ⊢
        cases d1 : zk == (j : Int) + 1 with
        | true =>
          rw [Bool.true_or]
          go_enter Tryz.func27, Tryz.ntmps27
          go_wp2_with fail
          generalize w.alloc (.cells #[.slice (some ⟨b, o, none⟩) up.length c, .slice AF Fl.length cF] 25) = w0 at HE0 HB0 ⊢
          generalize w.heap.size = g at HB0 ⊢
          refine ((HCk _ HE0.out).out).mono ?_
          rintro e w1 ⟨rfl, x1⟩
          have X1 := hid (HE0.out.trans x1)
          have HB1 := hid (HB0.out.ext x1)
          have a1 := HB1.out.cell (i := 0) (v := .slice (some ⟨b, o, none⟩) up.length c) rfl
          have b1 := HB1.out.cell (i := 1) (v := .slice AF Fl.length cF) rfl
          have l1 := HB1.out.lt
          clear x1 HCk HB0
          go_wp2_with fail
          refine ((HT _ _).out).mono ?_
          rintro e w2 ⟨rfl, x2⟩
          have X2 := hid (X1.out.trans x2)
          rw [hr]
          have HB2 := hid (HB1.out.ext x2)
          have a2 := HB2.out.cell (i := 0) (v := .slice (some ⟨b, o, none⟩) up.length c) rfl
          have b2 := HB2.out.cell (i := 1) (v := .slice AF Fl.length cF) rfl
          have l2 := HB2.out.lt
          clear x2 hr HB1 a1 b1 l1
          go_wp2_with fail
          refine ((HT _ _).out).mono ?_
          rintro e w3 ⟨rfl, x3⟩
          have X3 := hid (X2.out.trans x3)
          rw [hs]
          have HB3 := hid (HB2.out.ext x3)
          have a3 := HB3.out.cell (i := 0) (v := .slice (some ⟨b, o, none⟩) up.length c) rfl
          have l3 := HB3.out.lt
          have y1 := X3.out.cell ck0
          have y2 := X3.out.cell cj0
          have yl := Nat.lt_of_lt_of_le lb X3.out.size
          clear x3 HT hs HB2 a2 b2 l2 ck0 cj0 lb
          go_wp2_with fail
          go_ret
          exact ⟨rfl, X3.out⟩
        | false =>
          rw [Bool.false_or]
          go_enter Tryz.func27, Tryz.ntmps27
          go_wp2_with fail
          generalize w.alloc (.cells #[.slice (some ⟨b, o, none⟩) up.length c, .slice AF Fl.length cF] 25) = w0 at HE0 HB0 ⊢
          generalize w.heap.size = g at HB0 ⊢
          refine ((HCk _ HE0.out).out).mono ?_
          rintro e w1 ⟨rfl, x1⟩
          have X1 := hid (HE0.out.trans x1)
          have HB1 := hid (HB0.out.ext x1)
          have a1 := HB1.out.cell (i := 0) (v := .slice (some ⟨b, o, none⟩) up.length c) rfl
          have b1 := HB1.out.cell (i := 1) (v := .slice AF Fl.length cF) rfl
          have l1 := HB1.out.lt
          clear x1 HCk HB0
          go_wp2_with fail
          refine ((HT _ _).out).mono ?_
          rintro e w2 ⟨rfl, x2⟩
          have X2 := hid (X1.out.trans x2)
          rw [hr]
          have HB2 := hid (HB1.out.ext x2)
          have a2 := HB2.out.cell (i := 0) (v := .slice (some ⟨b, o, none⟩) up.length c) rfl
          have b2 := HB2.out.cell (i := 1) (v := .slice AF Fl.length cF) rfl
          have l2 := HB2.out.lt
          clear x2 hr HB1 a1 b1 l1
          go_wp2_with fail
          refine ((HT _ _).out).mono ?_
          rintro e w3 ⟨rfl, x3⟩
          have X3 := hid (X2.out.trans x3)
          rw [hs]
          have HB3 := hid (HB2.out.ext x3)
          have a3 := HB3.out.cell (i := 0) (v := .slice (some ⟨b, o, none⟩) up.length c) rfl
          have l3 := HB3.out.lt
          have y1 := X3.out.cell ck0
          have y2 := X3.out.cell cj0
          have yl := Nat.lt_of_lt_of_le lb X3.out.size
          clear x3 HT hs HB2 a2 b2 l2 ck0 cj0 lb
          go_wp2_with fail
          go_ret
          exact ⟨rfl, X3.out⟩
set_option maxRecDepth 100000 in
set_option maxHeartbeats 4000000 in
theorem rints_c (w : World) (u v : Value) (l : List Int) (hu : Sl w 1 u (Ints l)) (hv : Sl w 1 v (Ints l)) (hl : l.length ≤ 1000) : Calls Tryz.prog 24 #[u, v] w (Ret (.bool true) w) := by
  obtain ⟨A1, c1, rfl, p1, p2, p3⟩ := hu
  obtain ⟨A2, c2, rfl, q1, q2, q3⟩ := hv
  simp only [Ints, List.length_map] at p1 p3 q1 q3 ⊢
  unfold maxLen at p2 q2
  go_enter Tryz.func24, Tryz.ntmps24
  go_wp2_with fail
  go_loopw [5] (fun i wr => ∃ k : Nat, k ≤ l.length ∧ i = .int .i64 k ∧ Ext w wr) (fun i _ => l.length - (intOf i).toNat)
  case atStart => exact ⟨0, by omega, rfl, Ext.refl _⟩
  case round =>
    obtain ⟨k, hk, rfl, hE⟩ := hrel
    have HE := hid hE
    by_cases hlt : k < l.length
    · obtain ⟨b, o, rfl, lb, hcell⟩ := p3 (by omega)
      obtain ⟨b', o', rfl, lb', hcell'⟩ := q3 (by omega)
      have c0 := hE.cell (hcell k [.int .i64 l[k]] 0 (.int .i64 l[k]) (by simp [hlt]) rfl)
      have d0 := hE.cell (hcell' k [.int .i64 l[k]] 0 (.int .i64 l[k]) (by simp [hlt]) rfl)
      simp only [Nat.mul_one, Nat.add_zero] at c0 d0
      have lbr := Nat.lt_of_lt_of_le lb hE.size
      have lbr' := Nat.lt_of_lt_of_le lb' hE.size
      clear hcell p3 hcell' q3 hE
      generalize l[k] = z at c0 d0
      go_wp2_with fail
      refine wp_region_any_order (by kernel_rfl) (by kernel_rfl) (by kernel_rfl) ?_
      repeat (first
        | (refine AWq.val rfl rfl rfl rfl (fun K hK => ?_); go_big_quiet_op; refine hK _ ?_; clear hK K)
        | (refine AWq.skip rfl rfl rfl ?_; simp only [Act.put, List.setIfInBounds_toArray, List.set_cons_succ, List.set_cons_zero]))
      refine AWq.done rfl rfl rfl (fun w2 x2 => ?_)
      simp only [closeAny, Act.put, List.setIfInBounds_toArray, List.set_cons_succ, List.set_cons_zero]
      go_wp2_with fail
      go_roundw
      case rel => exact ⟨k + 1, by omega, by go_num, HE.out.trans x2⟩
      case measure => simp [intOf]; omega
    · obtain rfl : k = l.length := by omega
      clear hE p3 q3
      go_wp2_with fail
      go_ret
      exact ⟨rfl, HE.out⟩
end Go.Proofs.YtjnjamhohnnefaaGreatDoor
