/-
  route.Wants, Edges.
  The document's answers of chapter 39: Has, Up, Meet, Way.
  The document's Way.
  route.Meet, Way.
  awake of chapter 39; right.
-/
import Derived.Test.YtjnjamhohnnefaaGreatDoorPkL
import Derived.Test.YtjnjamhohnnefaaGreatDoorPkH
import Derived.ChangeKeysEq
namespace Go.Proofs.YtjnjamhohnnefaaGreatDoor
set_option linter.unusedSimpArgs false
set_option linter.unusedVariables false
open Go.RowKit Go.Sort

/-- Does a replica want a file? -/
noncomputable def wantB (Fl : List (List ClauseI)) (x : FileI) (r : Int) : Bool := (Fl.getD (r - 1).toNat []).any (hitB x)
theorem wantB_at {Fl : List (List ClauseI)} {x : FileI} {k : Nat} (h : k < Fl.length) : wantB Fl x ((k : Int) + 1) = Fl[k].any (hitB x) := by
  unfold wantB
  rw [show ((k : Int) + 1 - 1).toNat = k by omega, List.getD_eq_getElem?_getD, List.getElem?_eq_getElem h]; rfl
noncomputable def wantT (up : List Int) (Fl : List (List ClauseI)) (x : FileI) : List Int := someT up Fl (wantB Fl x)
theorem wantT_len (up : List Int) (Fl : List (List ClauseI)) (x : FileI) : (wantT up Fl x).length ≤ up.length := some_len _ _ _
theorem check_len {up : List Int} {Fl : List (List ClauseI)} (h : checkT up Fl = 0) : Fl.length = up.length := by
  have h1 := (check_zero h).2.1
  unfold shapeB at h1
  rw [Bool.and_eq_true, Bool.and_eq_true] at h1
  have := h1.2.2
  simp at this
  omega
set_option maxRecDepth 100000 in
set_option maxHeartbeats 4000000 in
theorem wants39_c (w : World) (up : List Int) (Fl : List (List ClauseI)) (A AF : Option Addr) (c cF : Nat) (x : FileI) (h : TreeAt w up Fl A AF c cF) (hx : x.p.size ≤ 1000) : Calls Tryz.prog 39 #[.agg #[.slice A up.length c, .slice AF Fl.length cF], .agg #[.string x.p, .int .i64 x.size, .bool x.dead]] w (RetQ (OwnI (wantT up Fl x) w.heap.size) w) := by
  have HE0 := hid (Ext.alloc w (.cells #[.slice A up.length c, .slice AF Fl.length cF] 25))
  have HB0 := hid (Blk.new w 25 #[.slice A up.length c, .slice AF Fl.length cF])
  have HE1 := hid (HE0.out.alloc' (.cells #[.string x.p, .int .i64 x.size, .bool x.dead] 32))
  have HB1 := hid (HB0.out.alloc (.cells #[.string x.p, .int .i64 x.size, .bool x.dead] 32))
  have HX1 := hid (Blk.new (w.alloc (.cells #[.slice A up.length c, .slice AF Fl.length cF] 25)) 32 #[.string x.p, .int .i64 x.size, .bool x.dead])
  rw [World.size_alloc] at HX1
  obtain ⟨m, hm⟩ := h.m
  have HCk := fun W (hW : Ext w W) => hid (check_c W up Fl A AF c cF m (hW.cell hm) (h.u.ext hW) h.l (h.f.ext hW) h.L)
  have HMt := fun W v (f : List ClauseI) (hS : Sl W 3 v (f.map ClauseI.cells)) (hf : LightF f) => hid (fmatch_c W v f x hS hx hf)
  unfold FileI.val at HMt
  have HF := hid h.f
  have HL := hid h.L
  have hl := h.l
  obtain ⟨h1, h2⟩ := h.cap
  obtain ⟨p1, p2⟩ := h.f.cap
  unfold maxLen at h2 p2
  have HLen : Hid (checkT up Fl = 0 → Fl.length = up.length) := check_len
  unfold wantT someT
  clear hm h
  generalize checkT up Fl = ck at HCk HLen ⊢
  by_cases e0 : ck = 0
  · subst e0
    have hn : nums up.length = nums Fl.length := by rw [HLen.out rfl]
    have hFl : Fl.length ≤ 1000 := by rw [HLen.out rfl]; exact hl
    rw [if_pos rfl, hn]
    clear hn
    have HW := hid (fun k (hk : k < Fl.length) => wantB_at (x := x) hk)
    generalize wantB Fl x = wb at HW ⊢
    clear HLen
    go_enter Tryz.func39, Tryz.ntmps39
    go_wp2_with fail
    generalize (w.alloc (.cells #[.slice A up.length c, .slice AF Fl.length cF] 25)).alloc (.cells #[.string x.p, .int .i64 x.size, .bool x.dead] 32) = w0 at HE1 HB1 HX1 ⊢
    generalize hg : w.heap.size = g at HB1 HX1 ⊢
    have z0 := HB1.out.cell (i := 0) (v := .slice A up.length c) rfl
    have z1 := HB1.out.cell (i := 1) (v := .slice AF Fl.length cF) rfl
    have zl := HB1.out.lt
    refine ((HCk _ HE1.out).out).mono ?_
    rintro e w1 ⟨rfl, x1⟩
    have X1 := hid (HE1.out.trans x1)
    have HB2 := hid (HB1.out.ext x1)
    have HX2 := hid (HX1.out.ext x1)
    have y0 := HB2.out.cell (i := 0) (v := .slice A up.length c) rfl
    have y1 := HB2.out.cell (i := 1) (v := .slice AF Fl.length cF) rfl
    have yl := HB2.out.lt
    clear x1 HCk HB1 HX1 HE1 HE0 HB0 z0 z1 zl
    go_wp2_with fail
    go_loopw [5, 15] (fun v i wr => ∃ (k : Nat) (ov : Value), k ≤ Fl.length ∧ i = .int .i64 k ∧ ov = v ∧ OwnI (((nums Fl.length).take k).filter wb) w1.heap.size ov wr ∧ Ext w1 wr) (fun _ i _ => Fl.length - (intOf i).toNat)
    case atStart => exact ⟨0, _, by omega, rfl, rfl, OwnI.nil _ _, Ext.refl _⟩
    case round =>
      obtain ⟨k, v, hk, rfl, rfl, hO, hE⟩ := hrel
      have HE := hid hE
      have HO := hid hO
      clear y0 y1 yl
      by_cases hlt : k < Fl.length
      · obtain ⟨bF, oF, A2, c2, rfl, lF, f0, hs⟩ := (HF.out.ext (X1.out.trans hE)).at hlt
        have hxb := HX2.out.ext hE
        have q0 := hxb.cell (i := 0) (v := .string x.p) rfl
        have q1 := hxb.cell (i := 1) (v := .int .i64 x.size) rfl
        have q2 := hxb.cell (i := 2) (v := .bool x.dead) rfl
        have ql := hxb.lt
        have HM := HMt _ _ _ hs (HL.out _ (List.getElem_mem hlt)).1
        rw [← HW.out k hlt] at HM
        obtain ⟨hl2, hm2⟩ := show Fl[k].length ≤ c2 ∧ c2 ≤ maxLen by
          obtain ⟨A', c', hv, h2, h3, _⟩ := sl_get hs
          injection hv with hA hn hc
          subst hc
          exact ⟨h2, h3⟩
        unfold maxLen at hm2
        have HS := hid (filter_take (P := wb) hlt)
        have HLn : Hid ((((nums Fl.length).take k).filter wb).length ≤ 1000) := by
          have h2 := List.length_filter_le wb ((nums Fl.length).take k)
          rw [List.length_take] at h2
          unfold Hid
          omega
        have hsz := hE.size
        clear hs hE hO hxb HMt HL HW
        generalize Fl[k] = f at f0 HM hl2
        generalize ((nums Fl.length).take k).filter wb = acc at HO HS HLn
        cases hz : wb ((k : Int) + 1) with
        | true =>
          rw [hz] at HM HS
          go_wp2_with fail
          refine (HM.out).mono ?_
          rintro e w2 ⟨rfl, x2⟩
          have X2 := hid (HE.out.trans x2)
          obtain ⟨v', w3, hrun, hO3, hk3⟩ := (HO.out.ext x2).push (Nat.le_trans hsz x2.size) ((k : Int) + 1) (by have := HLn.out; omega)
          have HE3 : Hid (Ext w1 w3) := (HO.out.ext x2).to hk3 X2.out (Nat.le_refl _)
          have HO3 := hid hO3
          clear x2 HM hO3 hk3 q0 q1 q2 ql
          go_wp2_with (at_builtin; refine wpList_app rfl (.tmp 23) (.tmp 26) _ _ rfl rfl rfl hrun ?_)
          go_roundw
          case rel => exact ⟨k + 1, _, by omega, by go_num, rfl, by rw [HS.out, if_pos trivial]; exact HO3.out, HE3.out⟩
          case measure => simp [intOf]; omega
        | false =>
          rw [hz] at HM HS
          go_wp2_with fail
          refine (HM.out).mono ?_
          rintro e w2 ⟨rfl, x2⟩
          have X2 := hid x2
          clear x2 HM q0 q1 q2 ql
          go_wp2_with fail
          go_roundw
          case rel => exact ⟨k + 1, _, by omega, by go_num, rfl, by rw [HS.out, if_neg (by simp), List.append_nil]; exact HO.out.ext X2.out, HE.out.trans X2.out⟩
          case measure => simp [intOf]; omega
      · obtain rfl : k = Fl.length := by omega
        rw [List.take_of_length_le (by rw [nums_len]; exact Nat.le_refl _)] at HO
        have hgw := X1.out.size
        clear hE hO HMt HL HW
        go_wp2_with fail
        go_ret
        exact ⟨_, rfl, HO.out.weak hgw, X1.out.trans HE.out⟩
  · rw [if_neg e0]
    have d0 : (ck != 0) = true := by simp [e0]
    clear e0 HMt HL HLen
    go_enter Tryz.func39, Tryz.ntmps39
    go_wp2_with fail
    generalize (w.alloc (.cells #[.slice A up.length c, .slice AF Fl.length cF] 25)).alloc (.cells #[.string x.p, .int .i64 x.size, .bool x.dead] 32) = w0 at HE1 HB1 HX1 ⊢
    refine ((HCk _ HE1.out).out).mono ?_
    rintro e w1 ⟨rfl, x1⟩
    have X1 := hid (HE1.out.trans x1)
    clear x1 HCk
    go_wp2_with fail
    go_ret
    exact ⟨_, rfl, OwnI.nil _ _, X1.out⟩
/-- Pairs of replicas. -/
def edgeC (e : Int × Int) : List Value := [.int .i64 e.1, .int .i64 e.2]
theorem edge_coded : Coded edgeC 2 := ⟨fun _ => rfl, fun a u hu => by simp [edgeC] at hu; rcases hu with rfl | rfl <;> rfl⟩
theorem edge_elem : Elem Tryz.prog 53 55 2 16 := by
  refine ⟨Tryz.underlying53, ?_⟩
  have h : (Tryz.prog.info? 55).map (fun i => (i.zero, i.size, i.bytes)) = some (some (.agg #[.int .i64 0, .int .i64 0]), 2, 16) := by kernel_rfl
  obtain ⟨i, hi, he⟩ := Option.map_eq_some_iff.1 h
  injection he with h1 h2
  injection h2 with h2 h3
  exact ⟨i, _, hi, h1, h2, h3, rfl⟩
/-- Who is linked. -/
def edgeK (up : List Int) (k : Nat) : List (Int × Int) := (((nums up.length).take k).filter fun r => upAt up r != 0).map fun r => (upAt up r, r)
theorem edgeK_zero (up : List Int) : edgeK up 0 = [] := by unfold edgeK; rw [List.take_zero]; rfl
theorem edgeK_len (up : List Int) (k : Nat) : (edgeK up k).length ≤ k := by
  unfold edgeK
  rw [List.length_map]
  have h2 := List.length_filter_le (fun r => upAt up r != 0) ((nums up.length).take k)
  rw [List.length_take] at h2
  omega
theorem edgeK_step {up : List Int} {k : Nat} (h : k < up.length) : edgeK up (k + 1) = edgeK up k ++ (if up[k] = 0 then [] else [(up[k], (k : Int) + 1)]) := by
  unfold edgeK
  rw [filter_take h, List.map_append, upAt_at h]
  by_cases h0 : up[k] = 0
  · rw [if_pos h0, if_neg (by simp [h0])]; rfl
  · rw [if_neg h0, if_pos (by simp [h0])]
    rw [List.map_singleton, upAt_at h]
noncomputable def edgeT (up : List Int) (Fl : List (List ClauseI)) : List (Int × Int) := if checkT up Fl = 0 then edgeK up up.length else []
set_option maxRecDepth 100000 in
set_option maxHeartbeats 4000000 in
theorem edges39_c (w : World) (up : List Int) (Fl : List (List ClauseI)) (A AF : Option Addr) (c cF : Nat) (h : TreeAt w up Fl A AF c cF) : Calls Tryz.prog 36 #[.agg #[.slice A up.length c, .slice AF Fl.length cF]] w (RetQ (fun v w' => Sl w' 2 v ((edgeT up Fl).map edgeC)) w) := by
  have HE0 := hid (Ext.alloc w (.cells #[.slice A up.length c, .slice AF Fl.length cF] 25))
  have HB0 := hid (Blk.new w 25 #[.slice A up.length c, .slice AF Fl.length cF])
  obtain ⟨m, hm⟩ := h.m
  have HCk := fun W (hW : Ext w W) => hid (check_c W up Fl A AF c cF m (hW.cell hm) (h.u.ext hW) h.l (h.f.ext hW) h.L)
  have HU := hid h.u
  have hl := h.l
  obtain ⟨h1, h2⟩ := h.cap
  unfold maxLen at h2
  unfold edgeT
  clear hm h
  generalize checkT up Fl = ck at HCk ⊢
  by_cases e0 : ck = 0
  · subst e0
    rw [if_pos rfl]
    go_enter Tryz.func36, Tryz.ntmps36
    go_wp2_with fail
    generalize w.alloc (.cells #[.slice A up.length c, .slice AF Fl.length cF] 25) = w0 at HE0 HB0 ⊢
    generalize hg : w.heap.size = g at HB0 ⊢
    have z0 := HB0.out.cell (i := 0) (v := .slice A up.length c) rfl
    have z1 := HB0.out.cell (i := 1) (v := .slice AF Fl.length cF) rfl
    have zl := HB0.out.lt
    refine ((HCk _ HE0.out).out).mono ?_
    rintro e w1 ⟨rfl, x1⟩
    have X1 := hid (HE0.out.trans x1)
    have HB1 := hid (HB0.out.ext x1)
    have y0 := HB1.out.cell (i := 0) (v := .slice A up.length c) rfl
    have y1 := HB1.out.cell (i := 1) (v := .slice AF Fl.length cF) rfl
    have yl := HB1.out.lt
    clear x1 HCk HB0 HE0 z0 z1 zl
    go_wp2_with fail
    go_loopw [3, 13] (fun v i wr => ∃ (k : Nat) (ov : Value), k ≤ up.length ∧ i = .int .i64 k ∧ ov = v ∧ wr.ownsRow w1.heap.size 55 2 ov (edgeK up k).length ((edgeK up k).map edgeC).flatten ∧ Ext w1 wr) (fun _ i _ => up.length - (intOf i).toNat)
    case atStart => exact ⟨0, _, by omega, rfl, rfl, by rw [edgeK_zero]; exact ownsRow_nil _ _ _ _, Ext.refl _⟩
    case round =>
      obtain ⟨k, v, hk, rfl, rfl, hO, hE⟩ := hrel
      have HE := hid hE
      have HO := hid hO
      clear y0 y1 yl
      by_cases hlt : k < up.length
      · obtain ⟨A', c', hv, p1, p2, p3⟩ := HU.out
        injection hv with hA hn hc
        subst hA hc
        simp only [Ints, List.length_map] at p1 p3
        obtain ⟨b, o, rfl, lb, hcell⟩ := p3 (by omega)
        have c0 := (X1.out.trans hE).cell (hcell k [.int .i64 up[k]] 0 (.int .i64 up[k]) (by simp [hlt]) rfl)
        simp only [Nat.mul_one, Nat.add_zero] at c0
        have lbr := Nat.lt_of_lt_of_le lb (X1.out.trans hE).size
        have HS := hid (edgeK_step hlt)
        have HLn := hid (edgeK_len up k)
        have hsz := hE.size
        clear hcell p3 p1 p2 hn HU hE hO
        generalize edgeK up k = acc at HO HS HLn
        generalize up[k] = z at c0 HS
        by_cases hz : z = 0
        · subst hz
          clear hsz
          go_wp2_with fail
          go_roundw
          case rel => exact ⟨k + 1, _, by omega, by go_num, rfl, by rw [HS.out, if_pos rfl, List.append_nil]; exact HO.out, HE.out⟩
          case measure => simp [intOf]; omega
        · have d0 : (z != 0) = true := by simp [hz]
          obtain ⟨v', w3, hrun, ho2, hk2, _⟩ := app_one (P := Tryz.prog) edge_elem edge_coded HO.out hsz (z, (k : Int) + 1) (by have := HLn.out; omega) (by omega)
          simp only [edgeC] at hrun
          have HO2 := hid ho2
          have HE3 : Hid (Ext w1 w3) := hk2.toExt HE.out (fun q hq => (row_block HO.out q hq).1)
          have HZ := hid hz
          clear ho2 hk2 hz
          go_wp2_with (at_builtin; refine wpList_app rfl (.tmp 20) (.tmp 25) _ _ rfl rfl rfl hrun ?_)
          go_roundw
          case rel => exact ⟨k + 1, _, by omega, by go_num, rfl, by rw [HS.out, if_neg HZ.out]; exact HO2.out, HE3.out⟩
          case measure => simp [intOf]; omega
      · obtain rfl : k = up.length := by omega
        have HV : Hid (Sl wr 2 v ((edgeK up up.length).map edgeC)) := sl_of_row (xs := (edgeK up up.length).map edgeC) (edge_coded.sizes _) (by rw [List.length_map]; exact hO)
        clear hE hO HO HU
        go_wp2_with fail
        go_ret
        exact ⟨_, rfl, HV.out, X1.out.trans HE.out⟩
  · rw [if_neg e0]
    have d0 : (ck != 0) = true := by simp [e0]
    clear e0
    go_enter Tryz.func36, Tryz.ntmps36
    go_wp2_with fail
    refine ((HCk _ HE0.out).out).mono ?_
    rintro e w1 ⟨rfl, x1⟩
    have X1 := hid (HE0.out.trans x1)
    clear x1 HCk
    go_wp2_with fail
    go_ret
    exact ⟨_, rfl, Sl.nil _ _, X1.out⟩
end Go.Proofs.YtjnjamhohnnefaaGreatDoor
namespace Go.Proofs.YtjnjamhohnnefaaGreatDoor
set_option linter.unusedSimpArgs false
set_option linter.unusedVariables false
open Go.RowKit Go.Sort

set_option maxRecDepth 100000 in
set_option maxHeartbeats 1000000 in
theorem rhas_c (w : World) (v : Value) (l : List Int) (x : Int) (h : Sl w 1 v (Ints l)) : Calls Tryz.prog 37 #[v, .int .i64 x] w (Ret (.bool (decide (x ∈ l))) w) := by
  obtain ⟨A, c, rfl, h1, h2, h3⟩ := h
  simp only [Ints, List.length_map] at h1 h3 ⊢
  unfold maxLen at h2
  go_enter Tryz.func37, Tryz.ntmps37
  go_wp2_with fail
  go_loopw [5] (fun i wr => ∃ k : Nat, k ≤ l.length ∧ i = .int .i64 k ∧ Hid (x ∉ l.take k) ∧ Ext w wr) (fun i _ => l.length - (intOf i).toNat)
  case atStart => exact ⟨0, by omega, rfl, by unfold Hid; simp, Ext.refl _⟩
  case round =>
    obtain ⟨k, hk, rfl, hn, hE⟩ := hrel
    have HE := hid hE
    by_cases hlt : k < l.length
    · obtain ⟨b, o, rfl, lb, hcell⟩ := h3 (by omega)
      have c0 := hE.cell (hcell k [.int .i64 l[k]] 0 (.int .i64 l[k]) (by simp [hlt]) rfl)
      simp only [Nat.mul_one, Nat.add_zero] at c0
      have lbr := Nat.lt_of_lt_of_le lb hE.size
      have HN := hid (fun he => not_take hlt hn.out he)
      have HM := hid (List.getElem_mem hlt)
      clear hcell h3 hE
      generalize l[k] = z at c0 HN HM
      by_cases he : z = x
      · subst he
        have hr : Hid (decide (z ∈ l) = true) := decide_eq_true HM.out
        have d0 : (z == z) = true := by simp
        clear HN HM
        go_wp2_with fail
        go_ret
        exact ⟨by rw [hr.out]; rfl, HE.out⟩
      · have d0 : (z == x) = false := by simp; exact he
        have HN := hid (HN.out he)
        clear HM he
        go_wp2_with fail
        go_roundw
        case rel => exact ⟨k + 1, by omega, by go_num, HN.out, HE.out⟩
        case measure => simp [intOf]; omega
    · obtain rfl : k = l.length := by omega
      have hr : Hid (decide (x ∈ l) = false) := decide_eq_false (by have := hn.out; rwa [List.take_length] at this)
      clear hE h3
      go_wp2_with fail
      go_ret
      exact ⟨by rw [hr.out]; rfl, HE.out⟩
/-- The document's way up, so far. -/
theorem refUp_in {up : List Int} {n : Nat} {r : Int} (h : 1 ≤ r ∧ r ≤ up.length) : refUp up (n + 1) r = r :: refUp up n (upAt up r) := by rw [refUp, if_pos h]
theorem refUp_out {up : List Int} {n : Nat} {r : Int} (h : ¬ (1 ≤ r ∧ r ≤ up.length)) : refUp up n r = [] := by
  cases n with
  | zero => rfl
  | succ n => rw [refUp, if_neg h]
set_option maxRecDepth 100000 in
set_option maxHeartbeats 4000000 in
theorem rup39_c (w : World) (v : Value) (up : List Int) (r : Int) (h : Sl w 1 v (Ints up)) (hl : up.length ≤ 1000) : Calls Tryz.prog 33 #[v, .int .i64 r] w (RetQ (OwnI (refUp up (up.length + 1) r) w.heap.size) w) := by
  obtain ⟨A, c, rfl, h1, h2, h3⟩ := h
  simp only [Ints, List.length_map] at h1 h3 ⊢
  unfold maxLen at h2
  have HLen := refUp_len up (up.length + 1) r
  generalize hL : refUp up (up.length + 1) r = L at HLen ⊢
  go_enter Tryz.func33, Tryz.ntmps33
  go_wp2_with fail
  go_loopw [1, 5, 6] (fun s1 v s6 wr => ∃ (r' : Int) (n : Nat) (acc : List Int) (ov : Value), s1 = .int .i64 r' ∧ s6 = .int .i64 n ∧ n ≤ up.length + 1 ∧ Hid (acc ++ refUp up (up.length + 1 - n) r' = L) ∧ ov = v ∧ OwnI acc w.heap.size ov wr ∧ Ext w wr) (fun _ _ s6 _ => up.length + 1 - (intOf s6).toNat)
  case atStart => exact ⟨r, 0, [], _, rfl, rfl, by omega, by unfold Hid; rw [← hL]; rfl, rfl, OwnI.nil _ _, Ext.refl _⟩
  case round =>
    obtain ⟨r', n, acc, v, rfl, rfl, hn, hacc, rfl, hO, hE⟩ := hrel
    have HE := hid hE
    have HO := hid hO
    clear hL
    by_cases hgo : n ≤ up.length ∧ 1 ≤ r' ∧ r' ≤ up.length
    · obtain ⟨g1, g2, g3⟩ := hgo
      have d0 : decide ((n : Int) ≤ up.length) = true := decide_eq_true (by omega)
      have d0' : decide (n ≤ up.length) = true := decide_eq_true g1
      have d1 : decide (1 ≤ r') = true := decide_eq_true g2
      have d2 : decide (r' ≤ (up.length : Int)) = true := decide_eq_true g3
      have hacc' := hacc.out
      rw [show up.length + 1 - n = (up.length - n) + 1 by omega, refUp_in ⟨g2, g3⟩] at hacc'
      obtain ⟨j, hj, hrj, hupj⟩ := upAt_get ⟨g2, g3⟩
      have hupj := hupj hj
      rw [hupj] at hacc'
      have hal : acc.length ≤ 100000 := by
        have := congrArg List.length hacc'
        simp at this
        omega
      obtain ⟨b, o, rfl, lb, hcell⟩ := h3 (by omega)
      obtain rfl : r' = (j : Int) + 1 := by omega
      obtain ⟨v', w3, hrun, hO3, hk3⟩ := hO.push hE.size ((j : Int) + 1) hal
      have hE3 : Ext w w3 := hO.to hk3 hE (Nat.le_refl _)
      have HE3 := hid hE3
      have HO3 := hid hO3
      have c0 := hE3.cell (hcell j [.int .i64 up[j]] 0 (.int .i64 up[j]) (by simp [hj]) rfl)
      simp only [Nat.mul_one, Nat.add_zero] at c0
      have lbr := Nat.lt_of_lt_of_le lb hE3.size
      have HA := hid hacc'
      clear hE3 hO3 hk3 hcell h3 hrj hupj hO hE hacc' hacc
      generalize up[j] = y at c0 HA
      go_wp2_with (at_builtin; refine wpList_app rfl (.tmp 23) (.tmp 25) _ _ rfl rfl rfl hrun ?_)
      go_roundw
      case rel => exact ⟨y, n + 1, acc ++ [(j : Int) + 1], _, rfl, by go_num, by omega, by unfold Hid; rw [show up.length + 1 - (n + 1) = up.length - n by omega, List.append_assoc]; exact HA.out, rfl, HO3.out, HE3.out⟩
      case measure => simp [intOf]; omega
    · have hend : refUp up (up.length + 1 - n) r' = [] := by
        by_cases g1 : n ≤ up.length
        · exact refUp_out fun h => hgo ⟨g1, h⟩
        · rw [show up.length + 1 - n = 0 by omega]; rfl
      have hacc' := hacc.out
      rw [hend, List.append_nil] at hacc'
      subst hacc'
      clear hend hO hE hacc h3 HLen
      by_cases g1 : n ≤ up.length
      · have d0 : decide ((n : Int) ≤ up.length) = true := decide_eq_true (by omega)
        have d0' : decide (n ≤ up.length) = true := decide_eq_true g1
        by_cases g2 : 1 ≤ r'
        · have d1 : decide (1 ≤ r') = true := decide_eq_true g2
          have d2 : decide (r' ≤ (up.length : Int)) = false := decide_eq_false fun h => hgo ⟨g1, g2, h⟩
          clear hgo
          go_wp2_with fail
          go_ret
          exact ⟨_, rfl, HO.out, HE.out⟩
        · have d1 : decide (1 ≤ r') = false := decide_eq_false g2
          clear hgo
          go_wp2_with fail
          go_ret
          exact ⟨_, rfl, HO.out, HE.out⟩
      · have d0 : decide ((n : Int) ≤ up.length) = false := decide_eq_false (by omega)
        have d0' : decide (n ≤ up.length) = false := decide_eq_false g1
        clear hgo
        go_wp2_with fail
        go_ret
        exact ⟨_, rfl, HO.out, HE.out⟩
set_option maxRecDepth 100000 in
set_option maxHeartbeats 4000000 in
theorem rmeet39_c (w : World) (up : List Int) (A : Option Addr) (c : Nat) (a b : Int) (hu : Sl w 1 (.slice A up.length c) (Ints up)) (hl : up.length ≤ 1000) (ha : ∃ k, climb up (up.length + 1) a = some k) (hb : ∃ k, climb up (up.length + 1) b = some k) : Calls Tryz.prog 34 #[.slice A up.length c, .int .i64 a, .int .i64 b] w (Ret (.int .i64 (meetK up a b up.length).1) w) := by
  have HSt := fun W (hW : Ext w W) r => hid (rsteps_c W up A c r (hu.ext hW) hl)
  have HUa := fun W (hW : Ext w W) r (hr : 1 ≤ r) => hid (runder_c W up A c a r (hu.ext hW) hl hr ha)
  have HUb := fun W (hW : Ext w W) r (hr : 1 ≤ r) => hid (runder_c W up A c b r (hu.ext hW) hl hr hb)
  obtain ⟨h1, h2⟩ := show up.length ≤ c ∧ c ≤ maxLen by
    obtain ⟨A', c', hv, h2, h3, _⟩ := hu
    injection hv with hA hn hc
    subst hc
    simp only [Ints, List.length_map] at h2
    exact ⟨h2, h3⟩
  unfold maxLen at h2
  clear hu ha hb
  go_enter Tryz.func34, Tryz.ntmps34
  go_wp2_with fail
  go_loopw [7, 8, 9] (fun s7 s8 s9 wr => ∃ (k : Nat) (x d : Int), k ≤ up.length ∧ s9 = .int .i64 ((k : Int) + 1) ∧ s7 = .int .i64 x ∧ s8 = .int .i64 d ∧ Hid (meetK up a b k = (x, d)) ∧ Ext w wr) (fun _ _ s9 _ => up.length + 1 - (intOf s9).toNat)
  case atStart => exact ⟨0, 0, -1, by omega, rfl, rfl, rfl, meetK_zero up a b, Ext.refl _⟩
  case round =>
    obtain ⟨k, x, d, hk, rfl, rfl, rfl, hm, hE⟩ := hrel
    have HE := hid hE
    by_cases hlt : k < up.length
    · have d0 : decide ((k : Int) + 1 ≤ up.length) = true := decide_eq_true (by omega)
      have hstep := meetK_step (a := a) (b := b) hlt
      rw [hm.out] at hstep
      unfold meetStep metB at hstep
      have HS := hid hstep
      have hS := fun W (hW : Ext wr W) => HSt W (hE.trans hW) ((k : Int) + 1)
      have hA := fun W (hW : Ext wr W) => HUa W (hE.trans hW) ((k : Int) + 1) (by omega)
      have hB := fun W (hW : Ext wr W) => HUb W (hE.trans hW) ((k : Int) + 1) (by omega)
      clear hstep HSt HUa HUb hE hm
      generalize stepsZ up ((k : Int) + 1) = st at HS hS
      generalize underB up a ((k : Int) + 1) = ua at HS hA
      generalize underB up b ((k : Int) + 1) = ub at HS hB
      go_wp2_with fail
      refine ((hS _ (Ext.refl _)).out).mono ?_
      rintro e w1 ⟨rfl, x1⟩
      have X1 := hid x1
      clear x1 hS
      cases ua with
      | false =>
        clear hB
        go_wp2_with fail
        refine ((hA _ X1.out).out).mono ?_
        rintro e w2 ⟨rfl, x2⟩
        have X2 := hid (X1.out.trans x2)
        clear x2 hA
        go_wp2_with fail
        go_roundw
        case rel => exact ⟨k + 1, x, d, by omega, by go_num, rfl, rfl, by unfold Hid; rw [HS.out]; simp, HE.out.trans X2.out⟩
        case measure => simp [intOf]; omega
      | true =>
        go_wp2_with fail
        refine ((hA _ X1.out).out).mono ?_
        rintro e w2 ⟨rfl, x2⟩
        have X2 := hid (X1.out.trans x2)
        clear x2 hA
        cases ub with
        | false =>
          go_wp2_with fail
          refine ((hB _ X2.out).out).mono ?_
          rintro e w3 ⟨rfl, x3⟩
          have X3 := hid (X2.out.trans x3)
          clear x3 hB
          go_wp2_with fail
          go_roundw
          case rel => exact ⟨k + 1, x, d, by omega, by go_num, rfl, rfl, by unfold Hid; rw [HS.out]; simp, HE.out.trans X3.out⟩
          case measure => simp [intOf]; omega
        | true =>
          go_wp2_with fail
          refine ((hB _ X2.out).out).mono ?_
          rintro e w3 ⟨rfl, x3⟩
          have X3 := hid (X2.out.trans x3)
          clear x3 hB
          by_cases hd : d < st
          · have d1 : decide (d < st) = true := decide_eq_true hd
            have HD := hid hd
            go_wp2_with fail
            go_roundw
            case rel => exact ⟨k + 1, (k : Int) + 1, st, by omega, by go_num, rfl, rfl, by unfold Hid; rw [HS.out, if_pos ⟨rfl, HD.out⟩], HE.out.trans X3.out⟩
            case measure => simp [intOf]; omega
          · have d1 : decide (d < st) = false := decide_eq_false hd
            have hnd : Hid (meetK up a b (k + 1) = (x, d)) := by unfold Hid; rw [HS.out, if_neg fun h => hd h.2]
            clear hd HS
            go_wp2_with fail
            go_roundw
            case rel => exact ⟨k + 1, x, d, by omega, by go_num, rfl, rfl, hnd, HE.out.trans X3.out⟩
            case measure => simp [intOf]; omega
    · obtain rfl : k = up.length := by omega
      have d0 : decide ((up.length : Int) + 1 ≤ up.length) = false := decide_eq_false (by omega)
      have hr : Hid ((meetK up a b up.length).1 = x) := by unfold Hid; rw [hm.out]
      clear hE hm HSt HUa HUb
      go_wp2_with fail
      go_ret
      exact ⟨by rw [hr.out]; rfl, HE.out⟩
end Go.Proofs.YtjnjamhohnnefaaGreatDoor
namespace Go.Proofs.YtjnjamhohnnefaaGreatDoor
set_option linter.unusedSimpArgs false
set_option linter.unusedVariables false
open Go.RowKit Go.Sort

/-- append(append([]int{}, x), l...). -/
theorem app_pre {w : World} {v : Value} {l : List Int} (x : Int) (h : Sl w 1 v (Ints l)) (hl : l.length ≤ 100000) : ∃ v1 w1 v2 w2, (Builtin.append_ #[22, 22] 22 #[.slice (some ⟨w.heap.size, 0, none⟩) 0 0, .slice (some ⟨w.heap.size + 1, 0, none⟩) 1 1]).run Tryz.prog ((w.alloc (.cells #[] 3)).alloc (.cells #[.int .i64 x] 3)) = .ok v1 w1 ∧ (Builtin.append_ #[22, 22] 22 #[v1, v]).run Tryz.prog w1 = .ok v2 w2 ∧ OwnI (x :: l) w.heap.size v2 w2 ∧ Ext w w2 := by
  have e0 : Ext w (w.alloc (.cells #[] 3)) := Ext.alloc _ _
  have o0 := own_lit (w := w) (Nat.le_refl _) 3 1 0 #[] (by unfold maxLen; omega) (by simp)
  obtain ⟨v1, w1, hr1, ho1, hk1, hb1⟩ := app_one (P := Tryz.prog) (acc := []) int_elem int_coded o0 e0.size x (by simp) (by omega)
  rw [World.size_alloc] at hr1
  have x1 : Ext w w1 := hk1.toExt e0 fun q hq => (row_block o0 q hq).1
  obtain ⟨v2, w2, hr2, ho2, hk2, _, hn2⟩ := app_row (ty := 22) int_elem ho1 x1.size (src_of_sl Tryz.underlying22 int_coded h x1) (by unfold maxLen; simp; omega) (by simp; omega)
  refine ⟨v1, w1, v2, w2, hr1, hr2, ⟨fun h0 => by simp at h0, ?_⟩, hk2.toExt x1 fun q hq => (row_block ho1 q hq).1⟩
  have e1 : (([] : List Int) ++ [x]).length + l.length = (x :: l).length := by simp; omega
  have e2 : ((([] : List Int) ++ [x]).map intC).flatten ++ (l.map intC).flatten = ((x :: l).map intC).flatten := by simp
  rw [e1, e2] at ho2
  exact ho2
theorem OwnI.app {l m : List Int} {B : Nat} {v u : Value} {w : World} (h : OwnI l B v w) (hB : B ≤ w.heap.size) (hm : Sl w 1 u (Ints m)) (hl : l.length ≤ 100000) (hml : m.length ≤ 100000) : ∃ v' w', (Builtin.append_ #[22, 22] 22 #[v, u]).run Tryz.prog w = .ok v' w' ∧ OwnI (l ++ m) B v' w' ∧ Keep (fun q => v.ownBlock = some q) w w' := by
  obtain ⟨v', w', hr, ho, hk, _, hn⟩ := app_row (ty := 22) int_elem h.2 hB (src_of_sl Tryz.underlying22 int_coded hm (Ext.refl w)) (by unfold maxLen; omega) (by omega)
  refine ⟨v', w', hr, ⟨fun h0 => ?_, ?_⟩, hk⟩
  · rw [List.length_append] at h0
    exact hn h0 (h.1 (by omega))
  · rw [List.length_append, List.map_append, List.flatten_append]
    exact ho
set_option maxRecDepth 100000 in
set_option maxHeartbeats 4000000 in
theorem rway39_c (w : World) (up : List Int) (A : Option Addr) (c : Nat) (a b m : Int) (ka kb p q : Nat) (hu : Sl w 1 (.slice A up.length c) (Ints up)) (hl : up.length ≤ 1000) (ha : Ht up a ka) (hb : Ht up b kb) (hm : MeetAt up (upL up a) (upL up b) m p q) (hmk : (meetK up a b up.length).1 = m) : Calls Tryz.prog 35 #[.slice A up.length c, .int .i64 a, .int .i64 b] w (RetQ (fun v w' => Sl w' 1 v (Ints (wayT (upL up a) (upL up b)))) w) := by
  have HMe := hid (rmeet39_c w up A c a b hu hl ⟨ka, ha⟩ ⟨kb, hb⟩)
  rw [hmk] at HMe
  have HW := hid hm.w
  have hna := hm.na
  have hnb := hm.nb
  have hmA : m ∈ upL up a := List.mem_of_getElem? hm.a
  have hmB : m ∈ upL up b := List.mem_of_getElem? hm.b
  have hpa : p < (upL up a).length := (List.getElem?_eq_some_iff.1 hm.a).1
  have hqb : q < (upL up b).length := (List.getElem?_eq_some_iff.1 hm.b).1
  have gp : (upL up a).getD p 0 = m := by rw [List.getD_eq_getElem?_getD, hm.a]; rfl
  have gq : (upL up b).getD q 0 = m := by rw [List.getD_eq_getElem?_getD, hm.b]; rfl
  have HNa : Hid (∀ k, k < p → (upL up a).getD k 0 ≠ m) := fun k hk he => by
    have hk' : k < (upL up a).length := by omega
    have e1 : (upL up a)[k]? = some m := by rw [← he, List.getD_eq_getElem?_getD, List.getElem?_eq_getElem hk']; rfl
    exact hna k hk m e1 hmB
  have HNb : Hid (∀ k, k < q → (upL up b).getD k 0 ≠ m) := fun k hk he => by
    have hk' : k < (upL up b).length := by omega
    have e1 : (upL up b)[k]? = some m := by rw [← he, List.getD_eq_getElem?_getD, List.getElem?_eq_getElem hk']; rfl
    exact hnb k hk m e1 hmA
  have a0 : (upL up a).getD 0 0 = a := by rw [List.getD_eq_getElem?_getD, upL_self ha]; rfl
  have b0 : (upL up b).getD 0 0 = b := by rw [List.getD_eq_getElem?_getD, upL_self hb]; rfl
  have HXa := hid (upL_next ha)
  have HXb := hid (upL_next hb)
  have hla := upL_le up a
  have hlb := upL_le up b
  obtain ⟨A', c', hv, h1, h2, h3⟩ := hu
  injection hv with hA hn hc
  subst hA hc
  simp only [Ints, List.length_map] at h1 h3
  unfold maxLen at h2
  rw [HW.out]
  clear hm hmk hna hnb hmA hmB hn ha hb HW
  generalize upL up a = La at *
  generalize upL up b = Lb at *
  have HGp := hid gp
  have HGq := hid gq
  clear gp gq
  go_enter Tryz.func35, Tryz.ntmps35
  go_wp2_with fail
  refine (HMe.out).mono ?_
  rintro e w1 ⟨rfl, x1⟩
  have X1 := hid x1
  clear x1 HMe
  go_wp2_with fail
  go_loopw [8, 9, 10] (fun v s9 s10 wr => ∃ (k : Nat) (ov : Value), k ≤ p ∧ s9 = .int .i64 (La.getD k 0) ∧ s10 = .int .i64 k ∧ ov = v ∧ OwnI (La.take k) w1.heap.size ov wr ∧ Ext w1 wr) (fun _ _ s10 _ => up.length + 1 - (intOf s10).toNat)
  case atStart => exact ⟨0, _, by omega, by rw [a0], rfl, rfl, by rw [List.take_zero]; exact OwnI.nil _ _, Ext.refl _⟩
  case round =>
    obtain ⟨k, v, hk, rfl, rfl, rfl, hO, hE⟩ := hrel
    have HE := hid hE
    have HO := hid hO
    clear a0
    have d0 : decide ((k : Int) ≤ up.length) = true := decide_eq_true (by omega)
    have d0' : decide (k ≤ up.length) = true := decide_eq_true (by omega)
    by_cases hlt : k < p
    · obtain ⟨⟨r1, r2⟩, hnx⟩ := HXa.out k (by omega)
      have hne := HNa.out k hlt
      have HT := hid (take_getD (l := La) (k := k) (by omega))
      obtain ⟨j, hj, hrj, hupj⟩ := upAt_get ⟨r1, r2⟩
      have hupj := hupj hj
      obtain ⟨bb, o, rfl, lb, hcell⟩ := h3 (by omega)
      have HN : Hid (up[j] = La.getD (k + 1) 0) := by unfold Hid; rw [← hupj, hnx]
      have hkl : (La.take k).length ≤ 100000 := by rw [List.length_take]; omega
      generalize La.getD k 0 = z at *
      obtain rfl : z = (j : Int) + 1 := by omega
      have d1 : ((j : Int) + 1 != m) = true := by simp; exact hne
      obtain ⟨v', w3, hrun, hO3, hk3⟩ := hO.push hE.size ((j : Int) + 1) hkl
      have hE3 : Ext w1 w3 := hO.to hk3 hE (Nat.le_refl _)
      have HE3 := hid hE3
      have HO3 := hid hO3
      have c0 := (X1.out.trans hE3).cell (hcell j [.int .i64 up[j]] 0 (.int .i64 up[j]) (by simp [hj]) rfl)
      simp only [Nat.mul_one, Nat.add_zero] at c0
      have lbr := Nat.lt_of_lt_of_le lb (X1.out.trans hE3).size
      clear hE3 hO3 hk3 hcell h3 hrj hupj hnx r1 r2 hO hE HXa HXb HNa HNb hne
      generalize up[j] = y at c0 HN
      go_wp2_with (at_builtin; refine wpList_app rfl (.tmp 30) (.tmp 32) _ _ rfl rfl rfl hrun ?_)
      go_roundw
      case rel => exact ⟨k + 1, _, by omega, by rw [HN.out], by go_num, rfl, by rw [HT.out]; exact HO3.out, HE3.out⟩
      case measure => simp [intOf]; omega
    · obtain rfl : k = p := by omega
      rw [HGp.out]
      have d1 : (m != m) = false := by simp
      obtain ⟨v', w3, hrun, hO3, hk3⟩ := hO.push hE.size m (by rw [List.length_take]; omega)
      have hE3 : Ext w1 w3 := hO.to hk3 hE (Nat.le_refl _)
      have HE3 := hid (X1.out.trans hE3)
      have hsz3 := hE3.size
      have HO3 := hid hO3
      clear hE3 hO3 hk3 hO hE HXa HNa HE HO HGp
      go_wp2_with (at_builtin; refine wpList_app rfl (.tmp 39) (.tmp 41) _ _ rfl rfl rfl hrun ?_)
      clear hrun
      go_loopw [11, 12, 13] (fun v s12 s13 wr => ∃ (i : Nat) (ov : Value), i ≤ q ∧ s12 = .int .i64 (Lb.getD i 0) ∧ s13 = .int .i64 i ∧ ov = v ∧ Sl wr 1 ov (Ints (Lb.take i).reverse) ∧ Ext w3 wr) (fun _ _ s13 _ => up.length + 1 - (intOf s13).toNat)
      case atStart => exact ⟨0, _, by omega, by rw [b0], rfl, rfl, by rw [List.take_zero]; exact Sl.nil _ _, Ext.refl _⟩
      case round =>
        obtain ⟨i, v2, hi, rfl, rfl, rfl, hS, hE⟩ := hrel
        have HE := hid hE
        have HS := hid hS
        clear b0
        have d2 : decide ((i : Int) ≤ up.length) = true := decide_eq_true (by omega)
        have d2' : decide (i ≤ up.length) = true := decide_eq_true (by omega)
        by_cases hlt2 : i < q
        · obtain ⟨⟨r1, r2⟩, hnx⟩ := HXb.out i (by omega)
          have hne := HNb.out i hlt2
          have HT := hid (take_getD (l := Lb) (k := i) (by omega))
          obtain ⟨j, hj, hrj, hupj⟩ := upAt_get ⟨r1, r2⟩
          have hupj := hupj hj
          obtain ⟨bb, o, rfl, lb, hcell⟩ := h3 (by omega)
          have HN : Hid (up[j] = Lb.getD (i + 1) 0) := by unfold Hid; rw [← hupj, hnx]
          have hkl : (Lb.take i).reverse.length ≤ 100000 := by rw [List.length_reverse, List.length_take]; omega
          generalize Lb.getD i 0 = z at *
          obtain rfl : z = (j : Int) + 1 := by omega
          have d1 : ((j : Int) + 1 != m) = true := by simp; exact hne
          obtain ⟨va, wa, vb, wb, hrun1, hrun2, hO4, hE4⟩ := app_pre ((j : Int) + 1) hS hkl
          have HS4 := hid hO4.sl
          have hE5 : Ext w3 wb := hE.trans hE4
          have HE5 := hid hE5
          have c0 := (HE3.out.trans hE5).cell (hcell j [.int .i64 up[j]] 0 (.int .i64 up[j]) (by simp [hj]) rfl)
          simp only [Nat.mul_one, Nat.add_zero] at c0
          have lbr := Nat.lt_of_lt_of_le lb (HE3.out.trans hE5).size
          clear hE5 hO4 hE4 hcell h3 hrj hupj hnx r1 r2 hS hE HXb HNb hne
          generalize up[j] = y at c0 HN
          go_wp2_with (first
            | (at_builtin; refine wpList_app rfl (.tmp 55) (.tmp 57) _ _ rfl rfl rfl hrun1 ?_)
            | (at_builtin; refine wpList_app rfl (.tmp 58) (.tmp 59) _ _ rfl rfl rfl hrun2 ?_))
          go_roundw
          case rel => exact ⟨i + 1, _, by omega, by rw [HN.out], by go_num, rfl, by rw [HT.out, List.reverse_append]; exact HS4.out, HE5.out⟩
          case measure => simp [intOf]; omega
        · obtain rfl : i = q := by omega
          rw [HGq.out]
          obtain ⟨v5, w5, hrun5, hO5, hk5⟩ := (HO3.out.ext hE).app (Nat.le_trans hsz3 hE.size) hS (by simp; omega) (by simp; omega)
          have HE5 : Hid (Ext w w5) := (HO3.out.ext hE).to hk5 (HE3.out.trans hE) X1.out.size
          have HS5 : Hid (Sl w5 1 v5 (Ints (La.take k ++ m :: (Lb.take i).reverse))) := by
            have := hO5.sl
            rw [List.append_assoc] at this
            exact this
          clear hS hE HXb HNb HGq h3 hO5 hk5
          go_wp2_with (at_builtin; refine wpList_app rfl (.tmp 66) (.tmp 67) _ _ rfl rfl rfl hrun5 ?_)
          go_ret
          exact ⟨_, rfl, HS5.out, HE5.out⟩
end Go.Proofs.YtjnjamhohnnefaaGreatDoor
namespace Go.Proofs.YtjnjamhohnnefaaGreatDoor
set_option linter.unusedSimpArgs false
set_option linter.unusedVariables false
open Go.RowKit Go.Sort

theorem meetL_at {A B : List Int} {k : Nat} {x : Int} (h : A[k]? = some x) (hx : x ∈ B) (hn : ∀ y ∈ A.take k, y ∉ B) : meetL A B = x := by
  obtain ⟨hk, he⟩ := List.getElem?_eq_some_iff.1 h
  have e : A = A.take k ++ x :: A.drop (k + 1) := by rw [← he, List.getElem_cons_drop, List.take_append_drop]
  have : A.find? (fun x => decide (x ∈ B)) = some x := List.find?_eq_some_iff_append.2 ⟨decide_eq_true hx, A.take k, A.drop (k + 1), e, fun y hy => by simp [hn y hy]⟩
  unfold meetL; rw [this]; rfl
theorem meetL_no {A B : List Int} (h : ∀ y ∈ A, y ∉ B) : meetL A B = 0 := by
  have : A.find? (fun x => decide (x ∈ B)) = none := List.find?_eq_none.2 fun y hy => by simp [h y hy]
  unfold meetL; rw [this]; rfl
set_option maxHeartbeats 1000000 in
theorem on_c (w : World) (q : Nat) (B : Option Addr) (c : Nat) (l : List Int) (x : Int) (hq : Blk w q 22 #[.slice B l.length c]) (h : Sl w 1 (.slice B l.length c) (Ints l)) : Calls Tryz.prog 56 #[.int .i64 x, .pointer (some ⟨q, 0, none⟩)] w (Ret (.bool (decide (x ∈ l))) w) := by
  have HC := hid (contains_c w _ l x h)
  have q0 := hq.cell (i := 0) (v := .slice B l.length c) rfl
  have ql := hq.lt
  clear hq h
  generalize decide (x ∈ l) = d at HC ⊢
  go_enter Tryz.func56, Tryz.ntmps56
  go_wp2_with fail
  refine (HC.out).mono ?_
  rintro e w1 ⟨rfl, x1⟩
  go_wp2_with fail
  go_ret
  exact ⟨rfl, x1⟩
set_option maxRecDepth 100000 in
set_option maxHeartbeats 4000000 in
theorem meet39_c (w : World) (up : List Int) (Fl : List (List ClauseI)) (A AF : Option Addr) (c cF : Nat) (a b : Int) (h : TreeAt w up Fl A AF c cF) : Calls Tryz.prog 31 #[.agg #[.slice A up.length c, .slice AF Fl.length cF], .int .i64 a, .int .i64 b] w (Ret (.int .i64 (meetT up Fl a b)) w) := by
  have HE0 := hid (Ext.alloc w (.cells #[.slice A up.length c, .slice AF Fl.length cF] 25))
  have HB0 := hid (Blk.new w 25 #[.slice A up.length c, .slice AF Fl.length cF])
  have HUp := fun W (hW : Ext w W) r => hid (up39_c W up Fl A AF c cF r (h.ext hW))
  obtain ⟨h1, h2⟩ := h.cap
  have hl := h.l
  have ha := upT_len up Fl a
  have hb := upT_len up Fl b
  unfold maxLen at h2
  clear h
  unfold meetT
  have HUa := fun W hW => HUp W hW a
  have HUb := fun W hW => HUp W hW b
  generalize upT up Fl a = La at HUa ha ⊢
  generalize upT up Fl b = Lb at HUb hb ⊢
  have HAt : Hid (∀ k x, La[k]? = some x → x ∈ Lb → (∀ y ∈ La.take k, y ∉ Lb) → meetL La Lb = x) := fun k x e1 e2 e3 => meetL_at e1 e2 e3
  have HNo : Hid ((∀ y ∈ La, y ∉ Lb) → meetL La Lb = 0) := fun e => meetL_no e
  generalize meetL La Lb = r at HAt HNo ⊢
  clear HUp
  go_enter Tryz.func31, Tryz.ntmps31
  go_wp2_with fail
  generalize w.alloc (.cells #[.slice A up.length c, .slice AF Fl.length cF] 25) = w0 at HE0 HB0 ⊢
  generalize w.heap.size = g at HB0 ⊢
  have z0 := HB0.out.cell (i := 0) (v := .slice A up.length c) rfl
  have z1 := HB0.out.cell (i := 1) (v := .slice AF Fl.length cF) rfl
  have zl := HB0.out.lt
  go_step3
  go_wp2_with fail
  refine ((HUb _ HE0.out).out).mono ?_
  rintro e w1 ⟨v1, rfl, hv1, x1⟩
  obtain ⟨B1, c1, rfl, b1, b2, _⟩ := sl_get (code := intC) hv1.sl
  unfold maxLen at b2
  have X1 := hid (HE0.out.trans x1)
  have HB1 := hid (HB0.out.ext x1)
  have HV1 := hid hv1.sl
  clear x1 hv1 HUb HB0 z0 z1 zl
  have y0 := HB1.out.cell (i := 0) (v := .slice A up.length c) rfl
  have y1 := HB1.out.cell (i := 1) (v := .slice AF Fl.length cF) rfl
  have yl := HB1.out.lt
  go_wp2_with fail
  have HQ := hid (Blk.new w1 22 #[.slice B1 Lb.length c1])
  have X2 := hid (X1.out.alloc' (.cells #[.slice B1 Lb.length c1] 22))
  have HB2 := hid (HB1.out.alloc (.cells #[.slice B1 Lb.length c1] 22))
  have HV2 := hid (HV1.out.ext (Ext.alloc w1 (.cells #[.slice B1 Lb.length c1] 22)))
  generalize w1.alloc (.cells #[.slice B1 Lb.length c1] 22) = w2 at HQ X2 HB2 HV2 ⊢
  generalize w1.heap.size = q at HQ ⊢
  clear HB1 X1 HV1 y0 y1 yl
  have y0 := HB2.out.cell (i := 0) (v := .slice A up.length c) rfl
  have y1 := HB2.out.cell (i := 1) (v := .slice AF Fl.length cF) rfl
  have yl := HB2.out.lt
  go_step3
  go_wp2_with fail
  refine ((HUa _ X2.out).out).mono ?_
  rintro e w3 ⟨v3, rfl, hv3, x3⟩
  obtain ⟨B3, c3, rfl, b3, b4, hcell⟩ := sl_get (code := intC) hv3.sl
  unfold maxLen at b4
  have X3 := hid (X2.out.trans x3)
  have HQ3 := hid (HQ.out.ext x3)
  have HV3 := hid (HV2.out.ext x3)
  clear x3 hv3 HUa HB2 HQ HV2 y0 y1 yl
  go_wp2_with fail
  go_loopw [7, 20] (fun s7 i wr => ∃ k : Nat, k ≤ La.length ∧ s7 = .int .i64 0 ∧ i = .int .i64 k ∧ Hid (∀ y ∈ La.take k, y ∉ Lb) ∧ Ext w3 wr) (fun _ i _ => La.length - (intOf i).toNat)
  case atStart => exact ⟨0, by omega, rfl, rfl, by unfold Hid; simp, Ext.refl _⟩
  case round =>
    obtain ⟨k, hk, rfl, rfl, hn, hE⟩ := hrel
    have HE := hid hE
    by_cases hlt : k < La.length
    · obtain ⟨bb, o, rfl, lb, hc⟩ := hcell (by omega)
      have c0 := hE.cell (hc k hlt 0 _ rfl)
      simp only [Nat.mul_one, Nat.add_zero] at c0
      have lbr := Nat.lt_of_lt_of_le lb hE.size
      have HAt := hid (HAt.out k La[k] (List.getElem?_eq_getElem hlt))
      have HN2 : Hid (La[k] ∉ Lb → ∀ y ∈ La.take (k + 1), y ∉ Lb) := fun h y hy => by
        rw [List.take_succ_eq_append_getElem hlt] at hy
        rcases List.mem_append.1 hy with h1 | h1
        · exact hn.out y h1
        · rw [List.mem_singleton.1 h1]; exact h
      have HC := hid (on_c wr q B1 c1 Lb La[k] (HQ3.out.ext hE) (HV3.out.ext hE))
      clear hc hcell hE HNo
      generalize La[k] = z at c0 HAt HN2 HC
      cases hd : decide (z ∈ Lb) with
      | true =>
        rw [hd] at HC
        have hr : Hid (r = z) := (HAt.out (of_decide_eq_true hd) hn.out).symm ▸ rfl
        go_wp2_with fail
        refine (HC.out).mono ?_
        rintro e w4 ⟨rfl, x4⟩
        have X4 := hid (HE.out.trans x4)
        clear x4 HC
        go_wp2_with fail
        go_ret
        exact ⟨by rw [hr.out]; rfl, X3.out.trans X4.out⟩
      | false =>
        rw [hd] at HC
        have HN2 := hid (HN2.out (of_decide_eq_false hd))
        go_wp2_with fail
        refine (HC.out).mono ?_
        rintro e w4 ⟨rfl, x4⟩
        have X4 := hid (HE.out.trans x4)
        clear x4 HC
        go_wp2_with fail
        go_roundw
        case rel => exact ⟨k + 1, by omega, rfl, by go_num, HN2.out, X4.out⟩
        case measure => simp [intOf]; omega
    · obtain rfl : k = La.length := by omega
      have hr : Hid (r = 0) := (HNo.out (by have := hn.out; rwa [List.take_length] at this)).symm ▸ rfl
      clear hE hcell HAt HNo
      go_wp2_with fail
      go_ret
      exact ⟨by rw [hr.out]; rfl, X3.out.trans HE.out⟩
/-- A part of a row of one's own from its start on. -/
theorem own_cut {w : World} {B : Nat} {A : Option Addr} {n c k : Nat} {l : List Int} (h : w.ownsRow B 3 1 (.slice A n c) l.length (l.map intC).flatten) (hk : k ≤ l.length) (hn : n = l.length) : w.ownsRow B 3 1 (.slice A k c) (l.take k).length ((l.take k).map intC).flatten := by
  have hlen : (l.take k).length = k := by rw [List.length_take]; omega
  have e1 : ((l.take k).map intC).flatten = ((l.map intC).flatten).take k := by rw [int_coded.flat_take, Nat.mul_one]
  obtain ⟨hf, h2 | ⟨g, cap, cs, hv, hb, hg, h3, h4, h5, h6⟩⟩ := h
  · injection h2.1 with hA hn' hc
    have hl0 : l.length = 0 := h2.2
    have hk0 : k = 0 := by omega
    subst hA hk0
    subst hc
    rw [List.take_zero]
    exact ownsRow_nil _ _ _ _
  · injection hv with hA hn' hc
    subst hA hc
    refine ⟨int_coded.flat_len _, .inr ⟨g, c, cs, ?_, hb, hg, ?_, h4, h5, ?_⟩⟩
    · rw [hlen]
    · omega
    · rw [e1, ← h6, List.take_take, hlen]
      congr 1
      omega
noncomputable def wayTT (up : List Int) (Fl : List (List ClauseI)) (a b : Int) : List Int := if meetT up Fl a b = 0 then [] else wayT (upT up Fl a) (upT up Fl b)
set_option maxRecDepth 100000 in
set_option maxHeartbeats 4000000 in
theorem way39_c (w : World) (up : List Int) (Fl : List (List ClauseI)) (A AF : Option Addr) (c cF : Nat) (a b : Int) (h : TreeAt w up Fl A AF c cF) : Calls Tryz.prog 30 #[.agg #[.slice A up.length c, .slice AF Fl.length cF], .int .i64 a, .int .i64 b] w (RetQ (fun v w' => Sl w' 1 v (Ints (wayTT up Fl a b))) w) := by
  have HE0 := hid (Ext.alloc w (.cells #[.slice A up.length c, .slice AF Fl.length cF] 25))
  have HB0 := hid (Blk.new w 25 #[.slice A up.length c, .slice AF Fl.length cF])
  have HMe := fun W (hW : Ext w W) => hid (meet39_c W up Fl A AF c cF a b (h.ext hW))
  have HUa := fun W (hW : Ext w W) => hid (up39_c W up Fl A AF c cF a (h.ext hW))
  have HUb := fun W (hW : Ext w W) => hid (up39_c W up Fl A AF c cF b (h.ext hW))
  obtain ⟨h1, h2⟩ := h.cap
  have hl := h.l
  unfold maxLen at h2
  clear h
  unfold wayTT
  cases hr : rightT up Fl a b with
  | false =>
    have hm := meetT_none hr
    rw [hm] at HMe
    rw [if_pos hm]
    clear hm hr HUa HUb
    go_enter Tryz.func30, Tryz.ntmps30
    go_wp2_with fail
    generalize w.alloc (.cells #[.slice A up.length c, .slice AF Fl.length cF] 25) = w0 at HE0 HB0 ⊢
    refine ((HMe _ HE0.out).out).mono ?_
    rintro e w1 ⟨rfl, x1⟩
    have X1 := hid (HE0.out.trans x1)
    clear x1 HMe HB0
    go_wp2_with fail
    go_ret
    exact ⟨_, rfl, Sl.nil _ _, X1.out⟩
  | true =>
    have h64 := (check_zero (rightT_iff.1 hr).1).1
    obtain ⟨ka, kb, m, p, q, ha, hb, ea, eb, em, hm, _, _, _⟩ := meet_at hr
    have hone := hm.one
    have hw := hm.w
    have hua := hm.ua
    have hub := hm.ub
    have hmA : m ∈ upL up a := List.mem_of_getElem? hm.a
    have hmB : m ∈ upL up b := List.mem_of_getElem? hm.b
    have hpa : p < (upL up a).length := (List.getElem?_eq_some_iff.1 hm.a).1
    have hqb : q < (upL up b).length := (List.getElem?_eq_some_iff.1 hm.b).1
    have hla := upL_le up a
    have hlb := upL_le up b
    rw [em] at HMe
    rw [ea] at HUa
    rw [eb] at HUb
    rw [em, ea, eb, if_neg (by omega), hw]
    clear hm hw hr ha hb ea eb em
    generalize upL up a = La at *
    generalize upL up b = Lb at *
    have d0 : (m == 0) = false := by simp; omega
    have HmA := hid hmA
    have HmB := hid hmB
    have HuA := hid hua
    have HuB := hid hub
    clear hmA hmB hua hub hone
    go_enter Tryz.func30, Tryz.ntmps30
    go_wp2_with fail
    generalize w.alloc (.cells #[.slice A up.length c, .slice AF Fl.length cF] 25) = w0 at HE0 HB0 ⊢
    generalize w.heap.size = g at HB0 ⊢
    have z0 := HB0.out.cell (i := 0) (v := .slice A up.length c) rfl
    have z1 := HB0.out.cell (i := 1) (v := .slice AF Fl.length cF) rfl
    have zl := HB0.out.lt
    refine ((HMe _ HE0.out).out).mono ?_
    rintro e w1 ⟨rfl, x1⟩
    have X1 := hid (HE0.out.trans x1)
    have HB1 := hid (HB0.out.ext x1)
    clear x1 HMe HB0 z0 z1 zl
    have z0 := HB1.out.cell (i := 0) (v := .slice A up.length c) rfl
    have z1 := HB1.out.cell (i := 1) (v := .slice AF Fl.length cF) rfl
    have zl := HB1.out.lt
    go_wp2_with fail
    refine ((HUa _ X1.out).out).mono ?_
    rintro e w2 ⟨v2, rfl, hv2, x2⟩
    have X2 := hid (X1.out.trans x2)
    have HB2 := hid (HB1.out.ext x2)
    obtain ⟨A2, c2, rfl, b2, b2', hc2⟩ := sl_get (code := intC) hv2.sl
    unfold maxLen at b2'
    obtain ⟨g2, o2, rfl, _, _⟩ := hc2 (by omega)
    have HC2 := hid (until_c w2 g2 o2 c2 La m hv2.sl HmA.out)
    rw [HuA.out] at HC2
    have HV2 := hid (own_cut hv2.2 (show p ≤ La.length by omega) rfl)
    have hlp : (La.take p).length = p := by rw [List.length_take]; omega
    rw [hlp] at HC2 HV2
    clear x2 hv2 hc2 HUa HB1 z0 z1 zl
    go_wp2_with fail
    refine (HC2.out).mono ?_
    rintro e w3 ⟨rfl, x3⟩
    have X3 := hid (X2.out.trans x3)
    have HB3 := hid (HB2.out.ext x3)
    have hV3 : Sl w3 1 (.slice (some ⟨g2, o2, none⟩) p c2) (Ints (La.take p)) := by
      have := sl_of_row (xs := (La.take p).map intC) (int_coded.sizes _) (by rw [List.length_map, hlp]; exact ownsRow_ext HV2.out x3)
      exact this
    obtain ⟨v4, w4, hr4, ho4, hk4, _, _⟩ := app_row (ty := 22) int_elem (ownsRow_nil w3 w3.heap.size 3 1) (Nat.le_refl _) (src_of_sl Tryz.underlying22 int_coded (l := La.take p) hV3 (Ext.refl _)) (by unfold maxLen; omega) (by omega)
    rw [List.nil_append, Nat.zero_add] at ho4
    have hE4 : Ext w3 w4 := hk4.toExt (Ext.refl _) fun q hq => by cases hq
    obtain ⟨v5, w5, hr5, ho5, hk5, _⟩ := app_one (P := Tryz.prog) int_elem int_coded ho4 hE4.size m (by omega) (by omega)
    simp only [intC] at hr5
    have hE5 : Ext w3 w5 := hk5.toExt hE4 fun q hq => (row_block ho4 q hq).1
    have HO5 := hid ho5
    have X5 := hid (X3.out.trans hE5)
    have HB5 := hid (HB3.out.ext hE5)
    have HE35 := hid hE5
    clear x3 hV3 hk4 ho4 hE4 hk5 ho5 hE5 HB2 HB3 HV2 HC2
    have z0 := HB5.out.cell (i := 0) (v := .slice A up.length c) rfl
    have z1 := HB5.out.cell (i := 1) (v := .slice AF Fl.length cF) rfl
    have zl := HB5.out.lt
    go_wp2_with (first
      | (at_builtin; refine wpList_app rfl (.const (.slice none 0 0)) (.tmp 21) _ _ rfl rfl rfl hr4 ?_)
      | (at_builtin; refine wpList_app rfl (.tmp 22) (.tmp 24) _ _ rfl rfl rfl hr5 ?_))
    refine ((HUb _ X5.out).out).mono ?_
    rintro e w6 ⟨v6, rfl, hv6, x6⟩
    obtain ⟨A6, c6, rfl, b6, b6', hc6⟩ := sl_get (code := intC) hv6.sl
    unfold maxLen at b6'
    obtain ⟨g6, o6, rfl, _, _⟩ := hc6 (by omega)
    have X6 := hid (X5.out.trans x6)
    have HC6 := hid (until_c w6 g6 o6 c6 Lb m hv6.sl HmB.out)
    have hlq : (Lb.take q).length = q := by rw [List.length_take]; omega
    rw [HuB.out, hlq] at HC6
    have hV6 := own_cut hv6.2 (show q ≤ Lb.length by omega) rfl
    have HT6 : Hid (TwoZ w3 w6 v5 (.slice (some ⟨g6, o6, none⟩) q c6) (La.take p ++ [m]) (Lb.take q)) := ⟨HE35.out.trans x6, ownsRow_ext HO5.out x6, row_weak hV6 HE35.out.size, fun a e1 e2 => by
      have n1 := (row_block HO5.out a e1).2
      have n2 := (row_block hV6 a e2).1
      omega⟩
    clear x6 hv6 hc6 hV6 HUb HB5 HO5 hr4 hr5 z0 z1 zl HE35
    go_wp2_with fail
    refine (HC6.out).mono ?_
    rintro e w7 ⟨rfl, x7⟩
    have HT7 := hid (HT6.out.ext x7)
    clear x7 HT6 HC6
    go_wp2_with fail
    go_loopw [8, 10] (fun s8 s10 wr => ∃ (j : Nat) (z : Int) (ov : Value), j ≤ q ∧ s10 = .int .i64 z ∧ Hid (z = (j : Int) - 1) ∧ ov = s8 ∧ TwoZ w3 wr ov (.slice (some ⟨g6, o6, none⟩) q c6) ((La.take p ++ [m]) ++ ((Lb.take q).drop j).reverse) (Lb.take q)) (fun _ s10 _ => (intOf s10 + 1).toNat)
    case atStart => exact ⟨q, _, _, Nat.le_refl _, rfl, rfl, rfl, by rw [List.drop_of_length_le (by omega), List.reverse_nil, List.append_nil]; exact HT7.out⟩
    case round =>
      obtain ⟨j, z, v8, hj, rfl, hz, rfl, hT⟩ := hrel
      have HT := hid hT
      rcases j with _ | i
      · obtain rfl : z = -1 := by have := hz.out; omega
        have HS : Hid (Sl wr 1 v8 (Ints (La.take p ++ m :: (Lb.take q).reverse))) := by
          have := hT.sl.1
          rw [List.drop_zero, List.append_assoc] at this
          exact this
        have HE : Hid (Ext w wr) := X3.out.trans hT.later
        clear hT HT HT7 hz
        go_wp2_with fail
        go_ret
        exact ⟨_, rfl, HS.out, HE.out⟩
      · obtain rfl : z = (i : Int) := by have := hz.out; omega
        have hiq : i < (Lb.take q).length := by omega
        obtain ⟨A', c', hv, p1, p2, p3⟩ := hT.sl.2
        obtain ⟨b', o', he, lb, hcell⟩ := p3 (by simp only [Ints, List.length_map]; omega)
        injection hv with hA hn hc
        rw [← hA] at he
        injection he with he
        injection he with e1 e2
        subst e1 e2
        have c0 := hcell i [.int .i64 (Lb.take q)[i]] 0 (.int .i64 (Lb.take q)[i]) (by show ((Lb.take q).map fun z => [Value.int .i64 z])[i]? = _; rw [List.getElem?_map, List.getElem?_eq_getElem hiq]; rfl) rfl
        simp only [Nat.mul_one, Nat.add_zero] at c0
        have HD : Hid (((Lb.take q).drop i).reverse = ((Lb.take q).drop (i + 1)).reverse ++ [(Lb.take q)[i]]) := by
          unfold Hid
          rw [List.drop_eq_getElem_cons hiq, List.reverse_cons]
        obtain ⟨v', w9, hrun, hT9⟩ := hT.push (Lb.take q)[i] (by simp; omega)
        have HT9 := hid hT9
        clear hcell p3 p1 p2 hT hT9 hz hA hn hc HT7 HT
        generalize (Lb.take q)[i] = y at c0 HD hrun HT9
        go_wp2_with (at_builtin; refine wpList_app rfl (.tmp 38) (.tmp 43) _ _ rfl rfl rfl hrun ?_)
        go_roundw
        case rel => exact ⟨i, _, _, by omega, rfl, by unfold Hid; omega, rfl, by rw [HD.out, ← List.append_assoc]; exact HT9.out⟩
        case measure => first | (simp [intOf]; done) | (simp [intOf]; omega)
end Go.Proofs.YtjnjamhohnnefaaGreatDoor
namespace Go.Proofs.YtjnjamhohnnefaaGreatDoor
set_option linter.unusedSimpArgs false
set_option linter.unusedVariables false
open Go.RowKit Go.Sort

/-- The same pairs? -/
def eqE (a1 a2 b1 b2 : Int) : Bool := (a1 == b1) && (a2 == b2)
theorem eqE_self (a b : Int) : eqE a b a b = true := by simp [eqE]
theorem run_eq_pair (a1 a2 b1 b2 : Int) (w : World) : (Op.equalIn 10000 55 (.agg #[.int .i64 a1, .int .i64 a2]) (.agg #[.int .i64 b1, .int .i64 b2])).run Tryz.prog w = .ok (eqE a1 a2 b1 b2) w := by
  obtain ⟨i, hi, he⟩ := Option.map_eq_some_iff.1 int_info
  have hc : Tryz.prog.cellsOf 3 = 1 := by kernel_rfl
  rw [run_equalIn_array w 9999 #[.int .i64 a1, .int .i64 a2] #[.int .i64 b1, .int .i64 b2] Tryz.underlying55 hi, hc]
  show (Op.eqItems 9999 3 1 #[.int .i64 a1, .int .i64 a2] #[.int .i64 b1, .int .i64 b2] [0, 1]).run Tryz.prog w = .ok (eqE a1 a2 b1 b2) w
  by_cases h1 : a1 = b1 <;> by_cases h2 : a2 = b2 <;> simp [Op.eqItems, go_sem, eqE, h1, h2]
attribute [go_sem 2000] run_eq_pair
theorem edge3 : edgeT up3 Fl3 = [(1, 2), (1, 3)] := by
  unfold edgeT
  rw [if_pos check3]; decide
theorem meet3 : meetT up3 Fl3 2 3 = 1 := by
  unfold meetT
  rw [upT_yes check3, upT_yes check3]; decide
theorem way3 : wayTT up3 Fl3 2 3 = [2, 1, 3] := by
  unfold wayTT
  rw [meet3, if_neg (by decide), upT_yes check3, upT_yes check3]; decide
def fileB : FileI := ⟨⟨#[98]⟩, 0, false⟩
theorem hit_all (p : ByteArray) : hitB ⟨p, 0, false⟩ ⟨⟨#[]⟩, 0, 200⟩ = true := by
  unfold hitB cov
  rw [show (⟨#[]⟩ : ByteArray).toList.isEmpty = true from (Pa.empty_iff _).2 rfl]
  simp [cutsB, cleanR]
theorem hit_b : hitB fileB ⟨⟨#[97]⟩, 0, 0⟩ = false := by
  unfold hitB fileB cov hpre
  rw [Lib.toList_data, Lib.toList_data]
  decide
theorem want3 : wantT up3 Fl3 fileB = [1, 2] := by
  unfold wantT
  rw [some3]
  have h1 : wantB Fl3 fileB 1 = true := by
    show ([⟨⟨#[]⟩, 0, 200⟩] : List ClauseI).any (hitB fileB) = true
    rw [List.any_cons, show hitB fileB ⟨⟨#[]⟩, 0, 200⟩ = true from hit_all _]; rfl
  have h2 : wantB Fl3 fileB 2 = true := by
    show ([⟨⟨#[]⟩, 0, 200⟩] : List ClauseI).any (hitB fileB) = true
    rw [List.any_cons, show hitB fileB ⟨⟨#[]⟩, 0, 200⟩ = true from hit_all _]; rfl
  have h3 : wantB Fl3 fileB 3 = false := by
    show ([⟨⟨#[97]⟩, 0, 0⟩] : List ClauseI).any (hitB fileB) = false
    rw [List.any_cons, hit_b]; rfl
  rw [List.filter_cons, if_pos h1, List.filter_cons, if_pos h2, List.filter_cons, if_neg (by rw [h3]; simp)]; rfl
section
variable {w : World} {g q : Nat} (h : TreeAt w up3 Fl3 (some ⟨g, 0, none⟩) (some ⟨q, 0, none⟩) 3 3)
include h
theorem edges3_c : Calls Tryz.prog 36 #[.agg #[.slice (some ⟨g, 0, none⟩) 3 3, .slice (some ⟨q, 0, none⟩) 3 3]] w (RetQ (fun v w' => Sl w' 2 v ([((1 : Int), (2 : Int)), (1, 3)].map edgeC)) w) := by
  have := edges39_c w up3 Fl3 _ _ 3 3 h
  rw [edge3] at this
  exact this
theorem way3_c : Calls Tryz.prog 30 #[.agg #[.slice (some ⟨g, 0, none⟩) 3 3, .slice (some ⟨q, 0, none⟩) 3 3], .int .i64 2, .int .i64 3] w (RetQ (fun v w' => Sl w' 1 v (Ints [2, 1, 3])) w) := by
  have := way39_c w up3 Fl3 _ _ 3 3 2 3 h
  rw [way3] at this
  exact this
theorem meet3_c : Calls Tryz.prog 31 #[.agg #[.slice (some ⟨g, 0, none⟩) 3 3, .slice (some ⟨q, 0, none⟩) 3 3], .int .i64 2, .int .i64 3] w (Ret (.int .i64 1) w) := by
  have := meet39_c w up3 Fl3 _ _ 3 3 2 3 h
  rw [meet3] at this
  exact this
theorem wants3_c : Calls Tryz.prog 39 #[.agg #[.slice (some ⟨g, 0, none⟩) 3 3, .slice (some ⟨q, 0, none⟩) 3 3], .agg #[.string ⟨#[98]⟩, .int .i64 0, .bool false]] w (RetQ (fun v w' => Sl w' 1 v (Ints [1, 2])) w) := by
  have := wants39_c w up3 Fl3 _ _ 3 3 fileB h (by decide)
  rw [want3] at this
  exact this.mono fun e w' ⟨v, h1, h2, h3⟩ => ⟨v, h1, h2.sl, h3⟩
end
set_option maxRecDepth 100000 in
set_option maxHeartbeats 4000000 in
theorem awake39_c (w : World) (m : Int) (hm : w.cell? ⟨0, 0, none⟩ = some (.int .i64 m)) : Calls Tryz.prog 28 #[] w (Ret (.bool true) w) := by
  have HA := fun W => hid (all_c W)
  have HM := hid hm
  have HU : Hid (Sl (w.alloc (.cells #[.int .i64 0, .int .i64 1, .int .i64 1] 3)) 1 (.slice (some ⟨w.heap.size, 0, none⟩) 3 3) (Ints up3)) := lit_row (w := w) (n := 3) int_coded 3 up3 #[.int .i64 0, .int .i64 1, .int .i64 1] rfl rfl (by unfold maxLen; omega)
  have HE0 := hid (Ext.alloc w (.cells #[.int .i64 0, .int .i64 1, .int .i64 1] 3))
  clear hm
  go_enter Tryz.func28, Tryz.ntmps28
  go_wp2_with fail
  generalize w.alloc (.cells #[.int .i64 0, .int .i64 1, .int .i64 1] 3) = w0 at HU HE0 ⊢
  generalize w.heap.size = g at HU ⊢
  refine ((HA _).out).mono ?_
  rintro e w1 ⟨v1, rfl, hv1, x1⟩
  have HV1 := hid hv1
  have X1 := hid (HE0.out.trans x1)
  have HU1 := hid (HU.out.ext x1)
  clear x1 hv1 HU HE0
  go_wp2_with fail
  refine ((HA _).out).mono ?_
  rintro e w2 ⟨v2, rfl, hv2, x2⟩
  have HV2 := hid hv2
  have X2 := hid (X1.out.trans x2)
  have HU2 := hid (HU1.out.ext x2)
  have HV1' := hid (HV1.out.ext x2)
  clear x2 hv2 HU1 X1 HV1 HA
  obtain ⟨A1, c1, hv1, p1, p2, _⟩ := sl_get HV1'.out
  obtain ⟨A2, c2, hv2, q1, q2, _⟩ := sl_get HV2.out
  rw [show allF.length = 1 from rfl] at hv1 hv2 p1 q1
  subst hv1 hv2
  unfold maxLen at p2 q2
  go_wp2_with fail
  have hA := lit_row (w := w2) (n := 1) clause_coded 65 fA #[.string ⟨#[97]⟩, .int .i64 0, .int .i64 0] rfl rfl (by unfold maxLen; omega)
  have ha := Ext.alloc w2 (.cells #[.string ⟨#[97]⟩, .int .i64 0, .int .i64 0] 65)
  generalize hW1 : w2.alloc (.cells #[.string ⟨#[97]⟩, .int .i64 0, .int .i64 0] 65) = W1 at hA ha
  have hs1 : W1.heap.size = w2.heap.size + 1 := by rw [← hW1, World.size_alloc]
  have hbF := Blk.new W1 30 #[.slice A1 1 c1, .slice A2 1 c2, .slice (some ⟨w2.heap.size, 0, none⟩) 1 1]
  have hf := Ext.alloc W1 (.cells #[.slice A1 1 c1, .slice A2 1 c2, .slice (some ⟨w2.heap.size, 0, none⟩) 1 1] 30)
  rw [hs1] at hbF
  generalize hW2 : W1.alloc (.cells #[.slice A1 1 c1, .slice A2 1 c2, .slice (some ⟨w2.heap.size, 0, none⟩) 1 1] 30) = W2 at hbF hf
  have hs2 : W2.heap.size = w2.heap.size + 1 + 1 := by rw [← hW2, World.size_alloc, hs1]
  have hbT := Blk.new W2 25 #[.slice (some ⟨g, 0, none⟩) 3 3, .slice (some ⟨w2.heap.size + 1, 0, none⟩) 3 3]
  have ht := Ext.alloc W2 (.cells #[.slice (some ⟨g, 0, none⟩) 3 3, .slice (some ⟨w2.heap.size + 1, 0, none⟩) 3 3] 25)
  rw [hs2] at hbT
  generalize hW3 : W2.alloc (.cells #[.slice (some ⟨g, 0, none⟩) 3 3, .slice (some ⟨w2.heap.size + 1, 0, none⟩) 3 3] 25) = W3 at hbT ht
  have X3 := hid (X2.out.trans (ha.trans (hf.trans ht)))
  have HB3 := hid hbT
  have HT3 : Hid (TreeAt W3 up3 Fl3 (some ⟨g, 0, none⟩) (some ⟨w2.heap.size + 1, 0, none⟩) 3 3) := ⟨⟨m, X3.out.cell HM.out⟩, HU2.out.ext (ha.trans (hf.trans ht)), by decide, (tree3_FsAt (HV1'.out.ext (ha.trans hf)) (HV2.out.ext (ha.trans hf)) (hA.ext hf) 30 hbF).ext ht, fl3_light⟩
  clear ha hf ht hbT hbF hA
  clear hW1 hW2 hW3 hs1 hs2 HV1' HV2 HU2 HM X2
  generalize w2.heap.size = q at HB3 HT3 ⊢
  refine (edges3_c HT3.out).mono ?_
  rintro e w4 ⟨v4, rfl, hv4, x4⟩
  have X4 := hid (X3.out.trans x4)
  have HB4 := hid (HB3.out.ext x4)
  have HT4 := hid (HT3.out.ext x4)
  obtain ⟨AE, cE, rfl, e1, e2, e3⟩ := hv4
  obtain ⟨bE, oE, rfl, lE, hE⟩ := e3 (by simp)
  have HE := hid hE
  have HlE := hid lE
  unfold maxLen at e2
  simp only [List.length_map, List.length_cons, List.length_nil] at e1 ⊢
  have a4 := HB4.out.cell (i := 0) (v := .slice (some ⟨g, 0, none⟩) 3 3) rfl
  have b4 := HB4.out.cell (i := 1) (v := .slice (some ⟨q + 1, 0, none⟩) 3 3) rfl
  have l4 := HB4.out.lt
  clear x4 HB3 HT3 hE e3
  go_wp2_with fail
  refine (way3_c HT4.out).mono ?_
  rintro e w5 ⟨v5, rfl, hv5, x5⟩
  have X5 := hid (X4.out.trans x5)
  have X45 := hid x5
  have HB5 := hid (HB4.out.ext x5)
  have HT5 := hid (HT4.out.ext x5)
  have HV := hid hv5
  obtain ⟨A5, c5, rfl, _⟩ := hv5
  have a5 := HB5.out.cell (i := 0) (v := .slice (some ⟨g, 0, none⟩) 3 3) rfl
  have b5 := HB5.out.cell (i := 1) (v := .slice (some ⟨q + 1, 0, none⟩) 3 3) rfl
  have l5 := HB5.out.lt
  clear x5 HB4 HT4 a4 b4 l4
  go_wp2_with fail
  have HL : Hid (Sl (w5.alloc (.cells #[.int .i64 2, .int .i64 1, .int .i64 3] 3)) 1 (.slice (some ⟨w5.heap.size, 0, none⟩) 3 3) (Ints [2, 1, 3])) := lit_row (w := w5) (n := 3) int_coded 3 [2, 1, 3] #[.int .i64 2, .int .i64 1, .int .i64 3] rfl rfl (by unfold maxLen; omega)
  have x0 := Ext.alloc w5 (.cells #[.int .i64 2, .int .i64 1, .int .i64 3] 3)
  refine (rints_c _ _ _ [2, 1, 3] (HV.out.ext x0) HL.out (by decide)).mono ?_
  rintro e w6 ⟨rfl, x6⟩
  have x6 := x0.trans x6
  have X6 := hid (X5.out.trans x6)
  have X46 := hid (X45.out.trans x6)
  have HB6 := hid (HB5.out.ext x6)
  have HT6 := hid (HT5.out.ext x6)
  have a6 := HB6.out.cell (i := 0) (v := .slice (some ⟨g, 0, none⟩) 3 3) rfl
  have b6 := HB6.out.cell (i := 1) (v := .slice (some ⟨q + 1, 0, none⟩) 3 3) rfl
  have l6 := HB6.out.lt
  clear x6 x0 HB5 HT5 a5 b5 l5 HL HV X45
  go_wp2_with fail
  refine (meet3_c HT6.out).mono ?_
  rintro e w7 ⟨rfl, x7⟩
  have X7 := hid (X6.out.trans x7)
  have X47 := hid (X46.out.trans x7)
  have HB7 := hid (HB6.out.ext x7)
  have HT7 := hid (HT6.out.ext x7)
  have a7 := HB7.out.cell (i := 0) (v := .slice (some ⟨g, 0, none⟩) 3 3) rfl
  have b7 := HB7.out.cell (i := 1) (v := .slice (some ⟨q + 1, 0, none⟩) 3 3) rfl
  have l7 := HB7.out.lt
  have k0 := X47.out.cell (HE.out 1 [.int .i64 1, .int .i64 3] 0 (.int .i64 1) rfl rfl)
  have k1 := X47.out.cell (HE.out 1 [.int .i64 1, .int .i64 3] 1 (.int .i64 3) rfl rfl)
  have kl := Nat.lt_of_lt_of_le HlE.out X47.out.size
  simp only [Nat.one_mul, Nat.add_zero] at k0 k1
  have hq : eqE 1 3 1 3 = true := rfl
  clear x7 HB6 HT6 a6 b6 l6 HE
  go_wp2_with fail
  refine (wants3_c HT7.out).mono ?_
  rintro e w8 ⟨v8, rfl, hv8, x8⟩
  have X8 := hid (X7.out.trans x8)
  have HV := hid hv8
  obtain ⟨A8, c8, rfl, _⟩ := hv8
  clear x8 HB7 HT7 a7 b7 l7 k0 k1 kl
  go_wp2_with fail
  have HL : Hid (Sl (w8.alloc (.cells #[.int .i64 1, .int .i64 2] 3)) 1 (.slice (some ⟨w8.heap.size, 0, none⟩) 2 2) (Ints [1, 2])) := lit_row (w := w8) (n := 2) int_coded 3 [1, 2] #[.int .i64 1, .int .i64 2] rfl rfl (by unfold maxLen; omega)
  have x0 := Ext.alloc w8 (.cells #[.int .i64 1, .int .i64 2] 3)
  refine (rints_c _ _ _ [1, 2] (HV.out.ext x0) HL.out (by decide)).mono ?_
  rintro e w9 ⟨rfl, x9⟩
  have X9 := hid (X8.out.trans (x0.trans x9))
  clear x9 x0
  go_wp2_with fail
  go_ret
  exact ⟨rfl, X9.out⟩
set_option maxRecDepth 100000 in
set_option maxHeartbeats 4000000 in
theorem right39_c (w : World) (up : List Int) (Fl : List (List ClauseI)) (A AF : Option Addr) (c cF : Nat) (a b : Int) (h : TreeAt w up Fl A AF c cF) : Calls Tryz.prog 29 #[.agg #[.slice A up.length c, .slice AF Fl.length cF], .int .i64 a, .int .i64 b] w (Ret (.bool (rightT up Fl a b)) w) := by
  have HE0 := hid (Ext.alloc w (.cells #[.slice A up.length c, .slice AF Fl.length cF] 25))
  have HB0 := hid (Blk.new w 25 #[.slice A up.length c, .slice AF Fl.length cF])
  have HCk := fun W (hW : Ext w W) => hid (rcheck28_c W up Fl A AF c cF (h.u.ext hW) h.l (h.f.ext hW) h.L)
  have hl := h.l
  obtain ⟨h1, h2⟩ := h.cap
  unfold maxLen at h2
  unfold rightT inT
  clear h
  generalize checkT up Fl = ck at HCk ⊢
  cases d0 : ck == 0 with
  | false =>
    rw [Bool.false_and]
    go_enter Tryz.func29, Tryz.ntmps29
    go_wp2_with fail
    generalize w.alloc (.cells #[.slice A up.length c, .slice AF Fl.length cF] 25) = w0 at HE0 HB0 ⊢
    generalize w.heap.size = g at HB0 ⊢
    have z0 := HB0.out.cell (i := 0) (v := .slice A up.length c) rfl
    have z1 := HB0.out.cell (i := 1) (v := .slice AF Fl.length cF) rfl
    have zl := HB0.out.lt
    refine ((HCk _ HE0.out).out).mono ?_
    rintro e w1 ⟨rfl, x1⟩
    have X1 := hid (HE0.out.trans x1)
    have HB1 := hid (HB0.out.ext x1)
    clear x1 HCk HB0 z0 z1 zl
    have z0 := HB1.out.cell (i := 0) (v := .slice A up.length c) rfl
    have z1 := HB1.out.cell (i := 1) (v := .slice AF Fl.length cF) rfl
    have zl := HB1.out.lt
    go_wp2_with fail
    go_ret
    exact ⟨rfl, X1.out⟩
  | true =>
    rw [Bool.true_and]
    cases d1 : decide (1 ≤ a) with
    | false =>
      rw [Bool.false_and, Bool.false_and]
      go_enter Tryz.func29, Tryz.ntmps29
      go_wp2_with fail
      generalize w.alloc (.cells #[.slice A up.length c, .slice AF Fl.length cF] 25) = w0 at HE0 HB0 ⊢
      generalize w.heap.size = g at HB0 ⊢
      have z0 := HB0.out.cell (i := 0) (v := .slice A up.length c) rfl
      have z1 := HB0.out.cell (i := 1) (v := .slice AF Fl.length cF) rfl
      have zl := HB0.out.lt
      refine ((HCk _ HE0.out).out).mono ?_
      rintro e w1 ⟨rfl, x1⟩
      have X1 := hid (HE0.out.trans x1)
      have HB1 := hid (HB0.out.ext x1)
      clear x1 HCk HB0 z0 z1 zl
      have z0 := HB1.out.cell (i := 0) (v := .slice A up.length c) rfl
      have z1 := HB1.out.cell (i := 1) (v := .slice AF Fl.length cF) rfl
      have zl := HB1.out.lt
      go_wp2_with fail
      go_ret
      exact ⟨rfl, X1.out⟩
    | true =>
      rw [Bool.true_and]
      cases d2 : decide (1 ≤ b) with
      | false =>
        rw [Bool.false_and, Bool.and_false]
        go_enter Tryz.func29, Tryz.ntmps29
        go_wp2_with fail
        generalize w.alloc (.cells #[.slice A up.length c, .slice AF Fl.length cF] 25) = w0 at HE0 HB0 ⊢
        generalize w.heap.size = g at HB0 ⊢
        have z0 := HB0.out.cell (i := 0) (v := .slice A up.length c) rfl
        have z1 := HB0.out.cell (i := 1) (v := .slice AF Fl.length cF) rfl
        have zl := HB0.out.lt
        refine ((HCk _ HE0.out).out).mono ?_
        rintro e w1 ⟨rfl, x1⟩
        have X1 := hid (HE0.out.trans x1)
        have HB1 := hid (HB0.out.ext x1)
        clear x1 HCk HB0 z0 z1 zl
        have z0 := HB1.out.cell (i := 0) (v := .slice A up.length c) rfl
        have z1 := HB1.out.cell (i := 1) (v := .slice AF Fl.length cF) rfl
        have zl := HB1.out.lt
        go_wp2_with fail
        go_ret
        exact ⟨rfl, X1.out⟩
      | true =>
        rw [Bool.true_and]
        cases d3 : decide (a ≤ (up.length : Int)) with
        | false =>
          rw [Bool.false_and]
          go_enter Tryz.func29, Tryz.ntmps29
          go_wp2_with fail
          generalize w.alloc (.cells #[.slice A up.length c, .slice AF Fl.length cF] 25) = w0 at HE0 HB0 ⊢
          generalize w.heap.size = g at HB0 ⊢
          have z0 := HB0.out.cell (i := 0) (v := .slice A up.length c) rfl
          have z1 := HB0.out.cell (i := 1) (v := .slice AF Fl.length cF) rfl
          have zl := HB0.out.lt
          refine ((HCk _ HE0.out).out).mono ?_
          rintro e w1 ⟨rfl, x1⟩
          have X1 := hid (HE0.out.trans x1)
          have HB1 := hid (HB0.out.ext x1)
          clear x1 HCk HB0 z0 z1 zl
          have z0 := HB1.out.cell (i := 0) (v := .slice A up.length c) rfl
          have z1 := HB1.out.cell (i := 1) (v := .slice AF Fl.length cF) rfl
          have zl := HB1.out.lt
          go_wp2_with fail
          go_ret
          exact ⟨rfl, X1.out⟩
        | true =>
          rw [Bool.true_and]
          cases d4 : decide (b ≤ (up.length : Int)) with
          | false =>
            go_enter Tryz.func29, Tryz.ntmps29
            go_wp2_with fail
            generalize w.alloc (.cells #[.slice A up.length c, .slice AF Fl.length cF] 25) = w0 at HE0 HB0 ⊢
            generalize w.heap.size = g at HB0 ⊢
            have z0 := HB0.out.cell (i := 0) (v := .slice A up.length c) rfl
            have z1 := HB0.out.cell (i := 1) (v := .slice AF Fl.length cF) rfl
            have zl := HB0.out.lt
            refine ((HCk _ HE0.out).out).mono ?_
            rintro e w1 ⟨rfl, x1⟩
            have X1 := hid (HE0.out.trans x1)
            have HB1 := hid (HB0.out.ext x1)
            clear x1 HCk HB0 z0 z1 zl
            have z0 := HB1.out.cell (i := 0) (v := .slice A up.length c) rfl
            have z1 := HB1.out.cell (i := 1) (v := .slice AF Fl.length cF) rfl
            have zl := HB1.out.lt
            go_wp2_with fail
            go_ret
            exact ⟨rfl, X1.out⟩
          | true =>
            go_enter Tryz.func29, Tryz.ntmps29
            go_wp2_with fail
            generalize w.alloc (.cells #[.slice A up.length c, .slice AF Fl.length cF] 25) = w0 at HE0 HB0 ⊢
            generalize w.heap.size = g at HB0 ⊢
            have z0 := HB0.out.cell (i := 0) (v := .slice A up.length c) rfl
            have z1 := HB0.out.cell (i := 1) (v := .slice AF Fl.length cF) rfl
            have zl := HB0.out.lt
            refine ((HCk _ HE0.out).out).mono ?_
            rintro e w1 ⟨rfl, x1⟩
            have X1 := hid (HE0.out.trans x1)
            have HB1 := hid (HB0.out.ext x1)
            clear x1 HCk HB0 z0 z1 zl
            have z0 := HB1.out.cell (i := 0) (v := .slice A up.length c) rfl
            have z1 := HB1.out.cell (i := 1) (v := .slice AF Fl.length cF) rfl
            have zl := HB1.out.lt
            go_wp2_with fail
            go_ret
            exact ⟨rfl, X1.out⟩
end Go.Proofs.YtjnjamhohnnefaaGreatDoor
