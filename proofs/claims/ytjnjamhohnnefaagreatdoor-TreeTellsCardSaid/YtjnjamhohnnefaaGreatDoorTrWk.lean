/-
  The law TreeTells: its walk where the tree may be (written by gen_tells.py).
-/
import Derived.Test.YtjnjamhohnnefaaGreatDoorTrVk
namespace Go.Proofs.YtjnjamhohnnefaaGreatDoor
set_option linter.unusedSimpArgs false
set_option linter.unusedVariables false
open Go.RowKit Go.Sort

theorem check_pos {up : List Int} {Fl : List (List ClauseI)} (h : checkT up Fl = 0) : 0 < up.length := by
  have h1 := root_count (check_zero h).2.1
  refine Nat.pos_of_ne_zero fun h0 => ?_
  rw [h0] at h1
  simp [nums] at h1
set_option maxRecDepth 100000 in
set_option maxHeartbeats 16000000 in
theorem tells_tree (w : World) (m : Int) (hm : w.cell? ⟨0, 0, none⟩ = some (.int .i64 m)) (up : List Int) (Fl : List (List ClauseI)) (A AF : Option Addr) (c cF : Nat) (r s : Int) (hu : Sl w 1 (.slice A up.length c) (Ints up)) (hF : FsAt w AF cF Fl) (hlt : lightT up Fl = true) (e0 : checkT up Fl = 0) : Calls Tryz.prog 5 #[.agg #[.slice A up.length c, .slice AF Fl.length cF], .int .i64 r, .int .i64 s] w (Ret (.bool true) w) := by
  have HE0 := hid (Ext.alloc w (.cells #[.slice A up.length c, .slice AF Fl.length cF] 25))
  have HB0 := hid (Blk.new w 25 #[.slice A up.length c, .slice AF Fl.length cF])
  have HAw := fun W (hW : Ext w W) => hid (awake28_c W m (hW.cell hm))
  have HLt := fun W (hW : Ext w W) => hid (light28_c W up Fl A AF c cF (hu.ext hW) (hF.ext hW))
  have ht : TreeAt w up Fl A AF c cF := lightT_tree hlt m hm hu hF
  rw [hlt] at HLt
  have HCk := fun W (hW : Ext w W) => hid (rcheck28_c W up Fl A AF c cF (ht.u.ext hW) ht.l (ht.f.ext hW) ht.L)
  have HRo := fun W (hW : Ext w W) => hid (root_c W up Fl A AF c cF (ht.ext hW))
  have HDe := fun W (hW : Ext w W) => hid (deepest_c W up Fl A AF c cF (ht.ext hW))
  have HDp := fun W (hW : Ext w W) => hid (depth_c W up Fl A AF c cF r (ht.ext hW))
  have HBe := fun W (hW : Ext w W) => hid (below_c W up Fl A AF c cF r (ht.ext hW))
  have HUn := fun W (hW : Ext w W) => hid (underOf_c W up Fl A AF c cF r (ht.ext hW))
  have HLi := fun W (hW : Ext w W) => hid (linked_c W up Fl A AF c cF r s (ht.ext hW))
  have hl := ht.l
  have HbeL : (belowT up Fl r).length ≤ 1000 := Nat.le_trans (some_len _ _ _) hl
  have HunL : (underT up Fl r).length ≤ 1000 := Nat.le_trans (some_len _ _ _) hl
  obtain ⟨h1, h2⟩ := ht.cap
  unfold maxLen at h2
  have HS1 := fun W (hW : Ext w W) (r' : Int) => hid (rsteps_c W up A c r' (ht.u.ext hW) hl)
  have HUd := fun W (hW : Ext w W) (ha : 1 ≤ r) (k : Nat) (hk : k < up.length) => hid (runder_c W up A c ((k : Int) + 1) r (ht.u.ext hW) hl ha (shape_climb (check_zero e0).2.1 (by omega) (by omega)))
  have HRt := hid (lastT_root e0)
  have HDt := hid (deepK_all e0)
  have HBt : Hid (rowK up (fun i => decide (1 ≤ r) && upAt up i == r) up.length = belowT up Fl r) := rowK_all _ e0
  have HUt : Hid (rowK up (fun i => decide (1 ≤ r) && underB up i r) up.length = underT up Fl r) := rowK_all _ e0
  have HDv : Hid (depthT up Fl r = if inT up.length r = true then stepsZ up r else 0) := by
    unfold Hid depthT
    by_cases h : inT up.length r = true
    · rw [if_pos ⟨e0, h⟩, if_pos h]
    · rw [if_neg (fun k => h k.2), if_neg h]
  have HLv : Hid (linkT up Fl r s = (inT up.length r && (inT up.length s && (upAt up r == s || upAt up s == r)))) := by unfold Hid linkT; rw [e0]; rfl
  have hpos := check_pos e0
  rw [e0] at HCk
  clear hm hF hlt ht e0
  generalize rootT up Fl = ro at HRo HRt
  generalize deepT up Fl = dp at HDe HDt
  generalize belowT up Fl r = be at HBe HBt HbeL
  generalize underT up Fl r = un at HUn HUt HunL
  generalize depthT up Fl r = de at HDp HDv
  generalize linkT up Fl r s = li at HLi HLv
  obtain ⟨A', c', hv, p1, p2, p3⟩ := hu
  injection hv with hA hn hc
  subst hA hc
  clear hn
  simp only [Ints, List.length_map] at p1 p3
  obtain ⟨b, o, rfl, lb, hcell⟩ := p3 hpos
  have HZ : Hid (∀ W, Ext w W → ∀ k (h : k < up.length), W.cell? ⟨b, o + k, none⟩ = some (.int .i64 up[k])) := fun W hW k h => by
    have := hW.cell (hcell k [.int .i64 up[k]] 0 (.int .i64 up[k]) (by simp [h]) rfl)
    simpa only [Nat.mul_one, Nat.add_zero] using this
  clear hcell p3 p1 p2 hpos
  go_enter Tryz.func5, Tryz.ntmps5
  go_wp2_with fail
  generalize w.alloc (.cells #[.slice (some ⟨b, o, none⟩) up.length c, .slice AF Fl.length cF] 25) = w0 at HE0 HB0 ⊢
  generalize w.heap.size = g at HB0 ⊢
  refine ((HLt _ HE0.out).out).mono ?_
  rintro e w1 ⟨rfl, x1⟩
  have X1 := hid (HE0.out.trans x1)
  have HB1 := hid (HB0.out.ext x1)
  have a1 := HB1.out.cell (i := 0) (v := .slice (some ⟨b, o, none⟩) up.length c) rfl
  have b1 := HB1.out.cell (i := 1) (v := .slice AF Fl.length cF) rfl
  have l1 := HB1.out.lt
  clear x1 HLt HB0 HE0
  go_wp2_with fail
  refine ((HCk _ X1.out).out).mono ?_
  rintro e w2 ⟨rfl, x2⟩
  have X2 := hid (X1.out.trans x2)
  have HB2 := hid (HB1.out.ext x2)
  have a2 := HB2.out.cell (i := 0) (v := .slice (some ⟨b, o, none⟩) up.length c) rfl
  have b2 := HB2.out.cell (i := 1) (v := .slice AF Fl.length cF) rfl
  have l2 := HB2.out.lt
  clear x2 HCk HB1 a1 b1 l1
  go_wp2_with fail
  go_loopw [8, 9, 10, 11, 12] (fun s8 s9 s10 s11 s12 wr => ∃ k : Nat, k ≤ up.length ∧ s12 = .int .i64 k ∧ s8 = .int .i64 (lastT up k) ∧ s9 = .int .i64 (deepK up k) ∧ TwoZ w2 wr s10 s11 (rowK up (fun i => decide (1 ≤ r) && upAt up i == r) k) (rowK up (fun i => decide (1 ≤ r) && underB up i r) k)) (fun _ _ _ _ s12 _ => up.length - (intOf s12).toNat)
  case atStart => exact ⟨0, by omega, rfl, rfl, rfl, TwoZ.nil _⟩
  case round =>
    obtain ⟨k, hk, rfl, rfl, rfl, hT⟩ := hrel
    have HT := hid hT
    have XR := hid (X2.out.trans hT.later)
    have HBR := hid (HB2.out.ext hT.later)
    have aR := HBR.out.cell (i := 0) (v := .slice (some ⟨b, o, none⟩) up.length c) rfl
    have bR := HBR.out.cell (i := 1) (v := .slice AF Fl.length cF) rfl
    have lR := HBR.out.lt
    have lbr := Nat.lt_of_lt_of_le lb XR.out.size
    clear a2 b2 l2 hT
    by_cases hlt : k < up.length
    · have dk : decide ((k : Int) < up.length) = true := decide_eq_true (by omega)
      have dk' : decide (k < up.length) = true := decide_eq_true hlt
      have cR := HZ.out _ XR.out k hlt
      have HSx := fun W (hW : Ext w2 W) => HS1 W (X2.out.trans hW) ((k : Int) + 1)
      have HUx := fun W (hW : Ext w2 W) (ha : 1 ≤ r) => HUd W (X2.out.trans hW) ha k hlt
      have HL := hid (lastT_step hlt)
      have HD := hid (deepK_step hlt)
      have HBs : Hid (rowK up (fun i => decide (1 ≤ r) && upAt up i == r) (k + 1) = rowK up (fun i => decide (1 ≤ r) && upAt up i == r) k ++ (if (decide (1 ≤ r) && up[k] == r) = true then [(k : Int) + 1] else [])) := by
        unfold Hid
        rw [rowK_step hlt, upAt_at hlt]
      have HUs : Hid (rowK up (fun i => decide (1 ≤ r) && underB up i r) (k + 1) = rowK up (fun i => decide (1 ≤ r) && underB up i r) k ++ (if (decide (1 ≤ r) && underB up ((k : Int) + 1) r) = true then [(k : Int) + 1] else [])) := rowK_step hlt
      have HLb : (rowK up (fun i => decide (1 ≤ r) && upAt up i == r) k).length ≤ 1000 := Nat.le_trans (rowK_len _ _ _) (by omega)
      have HLu : (rowK up (fun i => decide (1 ≤ r) && underB up i r) k).length ≤ 1000 := Nat.le_trans (rowK_len _ _ _) (by omega)
      have HcZ := hid (HZ.out _ X2.out k hlt)
      have HlZ := hid (Nat.lt_of_lt_of_le lb X2.out.size)
      clear HAw HRo HDe HDp HBe HUn HLi HRt HDt HBt HUt HDv HLv HS1 HUd HZ X1 X2 XR HBR
      generalize up[k] = z at cR HL HBs HcZ
      generalize lastT up k = la at HL ⊢
      generalize deepK up k = da at HD ⊢
      generalize stepsZ up ((k : Int) + 1) = st at HD HSx
      generalize underB up ((k : Int) + 1) r = ub at HUs HUx
      generalize rowK up (fun i => decide (1 ≤ r) && upAt up i == r) k = lb' at HBs HLb HT
      generalize rowK up (fun i => decide (1 ≤ r) && underB up i r) k = lu' at HUs HLu HT
      cases hz : z == 0 with
      | true =>
        cases d1 : decide (1 ≤ r) with
        | false =>
          have d2 : decide (0 < r) = false := by simp at d1 ⊢; omega
          have h9 := HBs.out; rw [if_neg (by rw [d1]; simp)] at h9; have HBs := hid h9; clear h9
          have h9 := HUs.out; rw [if_neg (by rw [d1]; simp)] at h9; have HUs := hid h9; clear h9
          have h9 := HL.out; rw [if_pos (by simpa using hz)] at h9; have HL := hid h9; clear h9
          go_wp2_with fail
          refine ((HSx _ HT.out.later).out).mono ?_
          rintro e w3 ⟨rfl, x3⟩
          have HT := hid (HT.out.ext x3)
          have E3 := hid HT.out.later
          have a3 := (HB2.out.ext E3.out).cell (i := 0) (v := .slice (some ⟨b, o, none⟩) up.length c) rfl
          have b3 := (HB2.out.ext E3.out).cell (i := 1) (v := .slice AF Fl.length cF) rfl
          have l3 := (HB2.out.ext E3.out).lt
          have c3 := E3.out.cell HcZ.out
          have m3 := Nat.lt_of_lt_of_le HlZ.out E3.out.size
          clear x3 aR bR lR cR lbr HSx
          go_wp2_with fail
          refine (rhigh_c _ _ _).mono ?_
          rintro e w4 ⟨rfl, x4⟩
          have HT := hid (HT.out.ext x4)
          have E4 := hid HT.out.later
          have a4 := (HB2.out.ext E4.out).cell (i := 0) (v := .slice (some ⟨b, o, none⟩) up.length c) rfl
          have b4 := (HB2.out.ext E4.out).cell (i := 1) (v := .slice AF Fl.length cF) rfl
          have l4 := (HB2.out.ext E4.out).lt
          have c4 := E4.out.cell HcZ.out
          have m4 := Nat.lt_of_lt_of_le HlZ.out E4.out.size
          clear x4
          clear a3 b3 l3 c3 m3 E3
          go_wp2_with fail
          go_roundw
          case rel => exact ⟨k + 1, by omega, by go_num, by rw [HL.out], by rw [HD.out], by (have hb9 := HBs.out; have hu9 := HUs.out; simp only [d1] at hb9 hu9 ⊢; rw [hb9, hu9]; simp only [List.append_nil]; exact HT.out)⟩
          case measure => simp [intOf]; omega
        | true =>
          have d2 : decide (0 < r) = true := by simp at d1 ⊢; omega
          have hzr : (z == r) = false := by simp at hz d1 ⊢; omega
          cases hub : ub with
          | true =>
            have h9 := HBs.out; rw [if_neg (by rw [d1, hzr]; simp)] at h9; have HBs := hid h9; clear h9
            have h9 := HUs.out; rw [if_pos (by rw [d1, hub]; rfl)] at h9; have HUs := hid h9; clear h9
            have h9 := HL.out; rw [if_pos (by simpa using hz)] at h9; have HL := hid h9; clear h9
            rw [hub] at HUx
            clear hub
            go_wp2_with fail
            refine ((HSx _ HT.out.later).out).mono ?_
            rintro e w3 ⟨rfl, x3⟩
            have HT := hid (HT.out.ext x3)
            have E3 := hid HT.out.later
            have a3 := (HB2.out.ext E3.out).cell (i := 0) (v := .slice (some ⟨b, o, none⟩) up.length c) rfl
            have b3 := (HB2.out.ext E3.out).cell (i := 1) (v := .slice AF Fl.length cF) rfl
            have l3 := (HB2.out.ext E3.out).lt
            have c3 := E3.out.cell HcZ.out
            have m3 := Nat.lt_of_lt_of_le HlZ.out E3.out.size
            clear x3 aR bR lR cR lbr HSx
            go_wp2_with fail
            refine (rhigh_c _ _ _).mono ?_
            rintro e w4 ⟨rfl, x4⟩
            have HT := hid (HT.out.ext x4)
            have E4 := hid HT.out.later
            have a4 := (HB2.out.ext E4.out).cell (i := 0) (v := .slice (some ⟨b, o, none⟩) up.length c) rfl
            have b4 := (HB2.out.ext E4.out).cell (i := 1) (v := .slice AF Fl.length cF) rfl
            have l4 := (HB2.out.ext E4.out).lt
            have c4 := E4.out.cell HcZ.out
            have m4 := Nat.lt_of_lt_of_le HlZ.out E4.out.size
            clear x4
            clear a3 b3 l3 c3 m3 E3
            go_wp2_with fail
            refine ((HUx _ HT.out.later (of_decide_eq_true d1)).out).mono ?_
            rintro e w6 ⟨rfl, x6⟩
            have HT := hid (HT.out.ext x6)
            have E6 := hid HT.out.later
            have a6 := (HB2.out.ext E6.out).cell (i := 0) (v := .slice (some ⟨b, o, none⟩) up.length c) rfl
            have b6 := (HB2.out.ext E6.out).cell (i := 1) (v := .slice AF Fl.length cF) rfl
            have l6 := (HB2.out.ext E6.out).lt
            have c6 := E6.out.cell HcZ.out
            have m6 := Nat.lt_of_lt_of_le HlZ.out E6.out.size
            clear x6
            clear a4 b4 l4 c4 m4 E4
            obtain ⟨v7, w7, hrun7, hT7⟩ := HT.out.symm.push ((k : Int) + 1) HLu
            have HT := hid hT7.symm
            clear hT7
            have E7 := hid HT.out.later
            have a7 := (HB2.out.ext E7.out).cell (i := 0) (v := .slice (some ⟨b, o, none⟩) up.length c) rfl
            have b7 := (HB2.out.ext E7.out).cell (i := 1) (v := .slice AF Fl.length cF) rfl
            have l7 := (HB2.out.ext E7.out).lt
            have c7 := E7.out.cell HcZ.out
            have m7 := Nat.lt_of_lt_of_le HlZ.out E7.out.size
            go_wp2_with (at_builtin; refine wpList_app rfl (.tmp 74) (.tmp 77) _ _ rfl rfl rfl hrun7 ?_)
            go_roundw
            case rel => exact ⟨k + 1, by omega, by go_num, by rw [HL.out], by rw [HD.out], by (have hb9 := HBs.out; have hu9 := HUs.out; simp only [d1] at hb9 hu9 ⊢; rw [hb9, hu9]; simp only [List.append_nil]; exact HT.out)⟩
            case measure => simp [intOf]; omega
          | false =>
            have h9 := HBs.out; rw [if_neg (by rw [d1, hzr]; simp)] at h9; have HBs := hid h9; clear h9
            have h9 := HUs.out; rw [if_neg (by rw [d1, hub]; simp)] at h9; have HUs := hid h9; clear h9
            have h9 := HL.out; rw [if_pos (by simpa using hz)] at h9; have HL := hid h9; clear h9
            rw [hub] at HUx
            clear hub
            go_wp2_with fail
            refine ((HSx _ HT.out.later).out).mono ?_
            rintro e w3 ⟨rfl, x3⟩
            have HT := hid (HT.out.ext x3)
            have E3 := hid HT.out.later
            have a3 := (HB2.out.ext E3.out).cell (i := 0) (v := .slice (some ⟨b, o, none⟩) up.length c) rfl
            have b3 := (HB2.out.ext E3.out).cell (i := 1) (v := .slice AF Fl.length cF) rfl
            have l3 := (HB2.out.ext E3.out).lt
            have c3 := E3.out.cell HcZ.out
            have m3 := Nat.lt_of_lt_of_le HlZ.out E3.out.size
            clear x3 aR bR lR cR lbr HSx
            go_wp2_with fail
            refine (rhigh_c _ _ _).mono ?_
            rintro e w4 ⟨rfl, x4⟩
            have HT := hid (HT.out.ext x4)
            have E4 := hid HT.out.later
            have a4 := (HB2.out.ext E4.out).cell (i := 0) (v := .slice (some ⟨b, o, none⟩) up.length c) rfl
            have b4 := (HB2.out.ext E4.out).cell (i := 1) (v := .slice AF Fl.length cF) rfl
            have l4 := (HB2.out.ext E4.out).lt
            have c4 := E4.out.cell HcZ.out
            have m4 := Nat.lt_of_lt_of_le HlZ.out E4.out.size
            clear x4
            clear a3 b3 l3 c3 m3 E3
            go_wp2_with fail
            refine ((HUx _ HT.out.later (of_decide_eq_true d1)).out).mono ?_
            rintro e w6 ⟨rfl, x6⟩
            have HT := hid (HT.out.ext x6)
            have E6 := hid HT.out.later
            have a6 := (HB2.out.ext E6.out).cell (i := 0) (v := .slice (some ⟨b, o, none⟩) up.length c) rfl
            have b6 := (HB2.out.ext E6.out).cell (i := 1) (v := .slice AF Fl.length cF) rfl
            have l6 := (HB2.out.ext E6.out).lt
            have c6 := E6.out.cell HcZ.out
            have m6 := Nat.lt_of_lt_of_le HlZ.out E6.out.size
            clear x6
            clear a4 b4 l4 c4 m4 E4
            go_wp2_with fail
            go_roundw
            case rel => exact ⟨k + 1, by omega, by go_num, by rw [HL.out], by rw [HD.out], by (have hb9 := HBs.out; have hu9 := HUs.out; simp only [d1] at hb9 hu9 ⊢; rw [hb9, hu9]; simp only [List.append_nil]; exact HT.out)⟩
            case measure => simp [intOf]; omega
      | false =>
        cases d1 : decide (1 ≤ r) with
        | false =>
          have d2 : decide (0 < r) = false := by simp at d1 ⊢; omega
          have h9 := HBs.out; rw [if_neg (by rw [d1]; simp)] at h9; have HBs := hid h9; clear h9
          have h9 := HUs.out; rw [if_neg (by rw [d1]; simp)] at h9; have HUs := hid h9; clear h9
          have h9 := HL.out; rw [if_neg (by simpa using hz)] at h9; have HL := hid h9; clear h9
          go_wp2_with fail
          refine ((HSx _ HT.out.later).out).mono ?_
          rintro e w3 ⟨rfl, x3⟩
          have HT := hid (HT.out.ext x3)
          have E3 := hid HT.out.later
          have a3 := (HB2.out.ext E3.out).cell (i := 0) (v := .slice (some ⟨b, o, none⟩) up.length c) rfl
          have b3 := (HB2.out.ext E3.out).cell (i := 1) (v := .slice AF Fl.length cF) rfl
          have l3 := (HB2.out.ext E3.out).lt
          have c3 := E3.out.cell HcZ.out
          have m3 := Nat.lt_of_lt_of_le HlZ.out E3.out.size
          clear x3 aR bR lR cR lbr HSx
          go_wp2_with fail
          refine (rhigh_c _ _ _).mono ?_
          rintro e w4 ⟨rfl, x4⟩
          have HT := hid (HT.out.ext x4)
          have E4 := hid HT.out.later
          have a4 := (HB2.out.ext E4.out).cell (i := 0) (v := .slice (some ⟨b, o, none⟩) up.length c) rfl
          have b4 := (HB2.out.ext E4.out).cell (i := 1) (v := .slice AF Fl.length cF) rfl
          have l4 := (HB2.out.ext E4.out).lt
          have c4 := E4.out.cell HcZ.out
          have m4 := Nat.lt_of_lt_of_le HlZ.out E4.out.size
          clear x4
          clear a3 b3 l3 c3 m3 E3
          go_wp2_with fail
          go_roundw
          case rel => exact ⟨k + 1, by omega, by go_num, by rw [HL.out], by rw [HD.out], by (have hb9 := HBs.out; have hu9 := HUs.out; simp only [d1] at hb9 hu9 ⊢; rw [hb9, hu9]; simp only [List.append_nil]; exact HT.out)⟩
          case measure => simp [intOf]; omega
        | true =>
          have d2 : decide (0 < r) = true := by simp at d1 ⊢; omega
          cases hzr : z == r with
          | true =>
            cases hub : ub with
            | true =>
              have h9 := HBs.out; rw [if_pos (by rw [d1, hzr]; rfl)] at h9; have HBs := hid h9; clear h9
              have h9 := HUs.out; rw [if_pos (by rw [d1, hub]; rfl)] at h9; have HUs := hid h9; clear h9
              have h9 := HL.out; rw [if_neg (by simpa using hz)] at h9; have HL := hid h9; clear h9
              rw [hub] at HUx
              clear hub
              go_wp2_with fail
              refine ((HSx _ HT.out.later).out).mono ?_
              rintro e w3 ⟨rfl, x3⟩
              have HT := hid (HT.out.ext x3)
              have E3 := hid HT.out.later
              have a3 := (HB2.out.ext E3.out).cell (i := 0) (v := .slice (some ⟨b, o, none⟩) up.length c) rfl
              have b3 := (HB2.out.ext E3.out).cell (i := 1) (v := .slice AF Fl.length cF) rfl
              have l3 := (HB2.out.ext E3.out).lt
              have c3 := E3.out.cell HcZ.out
              have m3 := Nat.lt_of_lt_of_le HlZ.out E3.out.size
              clear x3 aR bR lR cR lbr HSx
              go_wp2_with fail
              refine (rhigh_c _ _ _).mono ?_
              rintro e w4 ⟨rfl, x4⟩
              have HT := hid (HT.out.ext x4)
              have E4 := hid HT.out.later
              have a4 := (HB2.out.ext E4.out).cell (i := 0) (v := .slice (some ⟨b, o, none⟩) up.length c) rfl
              have b4 := (HB2.out.ext E4.out).cell (i := 1) (v := .slice AF Fl.length cF) rfl
              have l4 := (HB2.out.ext E4.out).lt
              have c4 := E4.out.cell HcZ.out
              have m4 := Nat.lt_of_lt_of_le HlZ.out E4.out.size
              clear x4
              clear a3 b3 l3 c3 m3 E3
              obtain ⟨v5, w5, hrun5, hT5⟩ := HT.out.push ((k : Int) + 1) HLb
              have HT := hid hT5
              clear hT5
              have E5 := hid HT.out.later
              have a5 := (HB2.out.ext E5.out).cell (i := 0) (v := .slice (some ⟨b, o, none⟩) up.length c) rfl
              have b5 := (HB2.out.ext E5.out).cell (i := 1) (v := .slice AF Fl.length cF) rfl
              have l5 := (HB2.out.ext E5.out).lt
              have c5 := E5.out.cell HcZ.out
              have m5 := Nat.lt_of_lt_of_le HlZ.out E5.out.size
              go_wp2_with (at_builtin; refine wpList_app rfl (.tmp 59) (.tmp 62) _ _ rfl rfl rfl hrun5 ?_)
              clear a4 b4 l4 c4 m4 E4
              clear hrun5
              refine ((HUx _ HT.out.later (of_decide_eq_true d1)).out).mono ?_
              rintro e w6 ⟨rfl, x6⟩
              have HT := hid (HT.out.ext x6)
              have E6 := hid HT.out.later
              have a6 := (HB2.out.ext E6.out).cell (i := 0) (v := .slice (some ⟨b, o, none⟩) up.length c) rfl
              have b6 := (HB2.out.ext E6.out).cell (i := 1) (v := .slice AF Fl.length cF) rfl
              have l6 := (HB2.out.ext E6.out).lt
              have c6 := E6.out.cell HcZ.out
              have m6 := Nat.lt_of_lt_of_le HlZ.out E6.out.size
              clear x6
              clear a5 b5 l5 c5 m5 E5
              obtain ⟨v7, w7, hrun7, hT7⟩ := HT.out.symm.push ((k : Int) + 1) HLu
              have HT := hid hT7.symm
              clear hT7
              have E7 := hid HT.out.later
              have a7 := (HB2.out.ext E7.out).cell (i := 0) (v := .slice (some ⟨b, o, none⟩) up.length c) rfl
              have b7 := (HB2.out.ext E7.out).cell (i := 1) (v := .slice AF Fl.length cF) rfl
              have l7 := (HB2.out.ext E7.out).lt
              have c7 := E7.out.cell HcZ.out
              have m7 := Nat.lt_of_lt_of_le HlZ.out E7.out.size
              go_wp2_with (at_builtin; refine wpList_app rfl (.tmp 74) (.tmp 77) _ _ rfl rfl rfl hrun7 ?_)
              go_roundw
              case rel => exact ⟨k + 1, by omega, by go_num, by rw [HL.out], by rw [HD.out], by (have hb9 := HBs.out; have hu9 := HUs.out; simp only [d1] at hb9 hu9 ⊢; rw [hb9, hu9]; exact HT.out)⟩
              case measure => simp [intOf]; omega
            | false =>
              have h9 := HBs.out; rw [if_pos (by rw [d1, hzr]; rfl)] at h9; have HBs := hid h9; clear h9
              have h9 := HUs.out; rw [if_neg (by rw [d1, hub]; simp)] at h9; have HUs := hid h9; clear h9
              have h9 := HL.out; rw [if_neg (by simpa using hz)] at h9; have HL := hid h9; clear h9
              rw [hub] at HUx
              clear hub
              go_wp2_with fail
              refine ((HSx _ HT.out.later).out).mono ?_
              rintro e w3 ⟨rfl, x3⟩
              have HT := hid (HT.out.ext x3)
              have E3 := hid HT.out.later
              have a3 := (HB2.out.ext E3.out).cell (i := 0) (v := .slice (some ⟨b, o, none⟩) up.length c) rfl
              have b3 := (HB2.out.ext E3.out).cell (i := 1) (v := .slice AF Fl.length cF) rfl
              have l3 := (HB2.out.ext E3.out).lt
              have c3 := E3.out.cell HcZ.out
              have m3 := Nat.lt_of_lt_of_le HlZ.out E3.out.size
              clear x3 aR bR lR cR lbr HSx
              go_wp2_with fail
              refine (rhigh_c _ _ _).mono ?_
              rintro e w4 ⟨rfl, x4⟩
              have HT := hid (HT.out.ext x4)
              have E4 := hid HT.out.later
              have a4 := (HB2.out.ext E4.out).cell (i := 0) (v := .slice (some ⟨b, o, none⟩) up.length c) rfl
              have b4 := (HB2.out.ext E4.out).cell (i := 1) (v := .slice AF Fl.length cF) rfl
              have l4 := (HB2.out.ext E4.out).lt
              have c4 := E4.out.cell HcZ.out
              have m4 := Nat.lt_of_lt_of_le HlZ.out E4.out.size
              clear x4
              clear a3 b3 l3 c3 m3 E3
              obtain ⟨v5, w5, hrun5, hT5⟩ := HT.out.push ((k : Int) + 1) HLb
              have HT := hid hT5
              clear hT5
              have E5 := hid HT.out.later
              have a5 := (HB2.out.ext E5.out).cell (i := 0) (v := .slice (some ⟨b, o, none⟩) up.length c) rfl
              have b5 := (HB2.out.ext E5.out).cell (i := 1) (v := .slice AF Fl.length cF) rfl
              have l5 := (HB2.out.ext E5.out).lt
              have c5 := E5.out.cell HcZ.out
              have m5 := Nat.lt_of_lt_of_le HlZ.out E5.out.size
              go_wp2_with (at_builtin; refine wpList_app rfl (.tmp 59) (.tmp 62) _ _ rfl rfl rfl hrun5 ?_)
              clear a4 b4 l4 c4 m4 E4
              clear hrun5
              refine ((HUx _ HT.out.later (of_decide_eq_true d1)).out).mono ?_
              rintro e w6 ⟨rfl, x6⟩
              have HT := hid (HT.out.ext x6)
              have E6 := hid HT.out.later
              have a6 := (HB2.out.ext E6.out).cell (i := 0) (v := .slice (some ⟨b, o, none⟩) up.length c) rfl
              have b6 := (HB2.out.ext E6.out).cell (i := 1) (v := .slice AF Fl.length cF) rfl
              have l6 := (HB2.out.ext E6.out).lt
              have c6 := E6.out.cell HcZ.out
              have m6 := Nat.lt_of_lt_of_le HlZ.out E6.out.size
              clear x6
              clear a5 b5 l5 c5 m5 E5
              go_wp2_with fail
              go_roundw
              case rel => exact ⟨k + 1, by omega, by go_num, by rw [HL.out], by rw [HD.out], by (have hb9 := HBs.out; have hu9 := HUs.out; simp only [d1] at hb9 hu9 ⊢; rw [hb9, hu9]; simp only [List.append_nil]; exact HT.out)⟩
              case measure => simp [intOf]; omega
          | false =>
            cases hub : ub with
            | true =>
              have h9 := HBs.out; rw [if_neg (by rw [d1, hzr]; simp)] at h9; have HBs := hid h9; clear h9
              have h9 := HUs.out; rw [if_pos (by rw [d1, hub]; rfl)] at h9; have HUs := hid h9; clear h9
              have h9 := HL.out; rw [if_neg (by simpa using hz)] at h9; have HL := hid h9; clear h9
              rw [hub] at HUx
              clear hub
              go_wp2_with fail
              refine ((HSx _ HT.out.later).out).mono ?_
              rintro e w3 ⟨rfl, x3⟩
              have HT := hid (HT.out.ext x3)
              have E3 := hid HT.out.later
              have a3 := (HB2.out.ext E3.out).cell (i := 0) (v := .slice (some ⟨b, o, none⟩) up.length c) rfl
              have b3 := (HB2.out.ext E3.out).cell (i := 1) (v := .slice AF Fl.length cF) rfl
              have l3 := (HB2.out.ext E3.out).lt
              have c3 := E3.out.cell HcZ.out
              have m3 := Nat.lt_of_lt_of_le HlZ.out E3.out.size
              clear x3 aR bR lR cR lbr HSx
              go_wp2_with fail
              refine (rhigh_c _ _ _).mono ?_
              rintro e w4 ⟨rfl, x4⟩
              have HT := hid (HT.out.ext x4)
              have E4 := hid HT.out.later
              have a4 := (HB2.out.ext E4.out).cell (i := 0) (v := .slice (some ⟨b, o, none⟩) up.length c) rfl
              have b4 := (HB2.out.ext E4.out).cell (i := 1) (v := .slice AF Fl.length cF) rfl
              have l4 := (HB2.out.ext E4.out).lt
              have c4 := E4.out.cell HcZ.out
              have m4 := Nat.lt_of_lt_of_le HlZ.out E4.out.size
              clear x4
              clear a3 b3 l3 c3 m3 E3
              go_wp2_with fail
              refine ((HUx _ HT.out.later (of_decide_eq_true d1)).out).mono ?_
              rintro e w6 ⟨rfl, x6⟩
              have HT := hid (HT.out.ext x6)
              have E6 := hid HT.out.later
              have a6 := (HB2.out.ext E6.out).cell (i := 0) (v := .slice (some ⟨b, o, none⟩) up.length c) rfl
              have b6 := (HB2.out.ext E6.out).cell (i := 1) (v := .slice AF Fl.length cF) rfl
              have l6 := (HB2.out.ext E6.out).lt
              have c6 := E6.out.cell HcZ.out
              have m6 := Nat.lt_of_lt_of_le HlZ.out E6.out.size
              clear x6
              clear a4 b4 l4 c4 m4 E4
              obtain ⟨v7, w7, hrun7, hT7⟩ := HT.out.symm.push ((k : Int) + 1) HLu
              have HT := hid hT7.symm
              clear hT7
              have E7 := hid HT.out.later
              have a7 := (HB2.out.ext E7.out).cell (i := 0) (v := .slice (some ⟨b, o, none⟩) up.length c) rfl
              have b7 := (HB2.out.ext E7.out).cell (i := 1) (v := .slice AF Fl.length cF) rfl
              have l7 := (HB2.out.ext E7.out).lt
              have c7 := E7.out.cell HcZ.out
              have m7 := Nat.lt_of_lt_of_le HlZ.out E7.out.size
              go_wp2_with (at_builtin; refine wpList_app rfl (.tmp 74) (.tmp 77) _ _ rfl rfl rfl hrun7 ?_)
              go_roundw
              case rel => exact ⟨k + 1, by omega, by go_num, by rw [HL.out], by rw [HD.out], by (have hb9 := HBs.out; have hu9 := HUs.out; simp only [d1] at hb9 hu9 ⊢; rw [hb9, hu9]; simp only [List.append_nil]; exact HT.out)⟩
              case measure => simp [intOf]; omega
            | false =>
              have h9 := HBs.out; rw [if_neg (by rw [d1, hzr]; simp)] at h9; have HBs := hid h9; clear h9
              have h9 := HUs.out; rw [if_neg (by rw [d1, hub]; simp)] at h9; have HUs := hid h9; clear h9
              have h9 := HL.out; rw [if_neg (by simpa using hz)] at h9; have HL := hid h9; clear h9
              rw [hub] at HUx
              clear hub
              go_wp2_with fail
              refine ((HSx _ HT.out.later).out).mono ?_
              rintro e w3 ⟨rfl, x3⟩
              have HT := hid (HT.out.ext x3)
              have E3 := hid HT.out.later
              have a3 := (HB2.out.ext E3.out).cell (i := 0) (v := .slice (some ⟨b, o, none⟩) up.length c) rfl
              have b3 := (HB2.out.ext E3.out).cell (i := 1) (v := .slice AF Fl.length cF) rfl
              have l3 := (HB2.out.ext E3.out).lt
              have c3 := E3.out.cell HcZ.out
              have m3 := Nat.lt_of_lt_of_le HlZ.out E3.out.size
              clear x3 aR bR lR cR lbr HSx
              go_wp2_with fail
              refine (rhigh_c _ _ _).mono ?_
              rintro e w4 ⟨rfl, x4⟩
              have HT := hid (HT.out.ext x4)
              have E4 := hid HT.out.later
              have a4 := (HB2.out.ext E4.out).cell (i := 0) (v := .slice (some ⟨b, o, none⟩) up.length c) rfl
              have b4 := (HB2.out.ext E4.out).cell (i := 1) (v := .slice AF Fl.length cF) rfl
              have l4 := (HB2.out.ext E4.out).lt
              have c4 := E4.out.cell HcZ.out
              have m4 := Nat.lt_of_lt_of_le HlZ.out E4.out.size
              clear x4
              clear a3 b3 l3 c3 m3 E3
              go_wp2_with fail
              refine ((HUx _ HT.out.later (of_decide_eq_true d1)).out).mono ?_
              rintro e w6 ⟨rfl, x6⟩
              have HT := hid (HT.out.ext x6)
              have E6 := hid HT.out.later
              have a6 := (HB2.out.ext E6.out).cell (i := 0) (v := .slice (some ⟨b, o, none⟩) up.length c) rfl
              have b6 := (HB2.out.ext E6.out).cell (i := 1) (v := .slice AF Fl.length cF) rfl
              have l6 := (HB2.out.ext E6.out).lt
              have c6 := E6.out.cell HcZ.out
              have m6 := Nat.lt_of_lt_of_le HlZ.out E6.out.size
              clear x6
              clear a4 b4 l4 c4 m4 E4
              go_wp2_with fail
              go_roundw
              case rel => exact ⟨k + 1, by omega, by go_num, by rw [HL.out], by rw [HD.out], by (have hb9 := HBs.out; have hu9 := HUs.out; simp only [d1] at hb9 hu9 ⊢; rw [hb9, hu9]; simp only [List.append_nil]; exact HT.out)⟩
              case measure => simp [intOf]; omega
    · obtain rfl : k = up.length := by omega
      rw [HRt.out, HDt.out]
      have hS := HT.out.sl
      rw [HBt.out, HUt.out] at hS
      have H10 := hid hS.1
      have H11 := hid hS.2
      clear hS HT HB2 X2 X1 HUd HRt HDt HBt HUt hlt
      cases d1 : decide (1 ≤ r) with
      | false =>
        have hin : inT up.length r = false := by unfold inT; rw [d1]; rfl
        obtain rfl : de = 0 := by have h9 := HDv.out; rw [if_neg (by rw [hin]; simp)] at h9; exact h9
        obtain rfl : li = false := by have h9 := HLv.out; rw [hin, Bool.false_and] at h9; exact h9
        clear hin HDv HLv HS1 HZ
        go_wp2_with fail
        refine ((HAw _ XR.out).out).mono ?_
        rintro e wt0 ⟨rfl, xt0⟩
        have Xt0 := hid (XR.out.trans xt0)
        have HBt0 := hid (HBR.out.ext xt0)
        have at0 := HBt0.out.cell (i := 0) (v := .slice (some ⟨b, o, none⟩) up.length c) rfl
        have bt0 := HBt0.out.cell (i := 1) (v := .slice AF Fl.length cF) rfl
        have lt0 := HBt0.out.lt
        have H10 := hid (H10.out.ext xt0)
        have H11 := hid (H11.out.ext xt0)
        clear xt0
        go_wp2_with fail
        refine ((HRo _ Xt0.out).out).mono ?_
        rintro e wt1 ⟨rfl, xt1⟩
        have Xt1 := hid (Xt0.out.trans xt1)
        have HBt1 := hid (HBt0.out.ext xt1)
        have at1 := HBt1.out.cell (i := 0) (v := .slice (some ⟨b, o, none⟩) up.length c) rfl
        have bt1 := HBt1.out.cell (i := 1) (v := .slice AF Fl.length cF) rfl
        have lt1 := HBt1.out.lt
        have H10 := hid (H10.out.ext xt1)
        have H11 := hid (H11.out.ext xt1)
        clear xt1
        clear at0 bt0 lt0 HBt0
        go_wp2_with fail
        refine ((HDe _ Xt1.out).out).mono ?_
        rintro e wt2 ⟨rfl, xt2⟩
        have Xt2 := hid (Xt1.out.trans xt2)
        have HBt2 := hid (HBt1.out.ext xt2)
        have at2 := HBt2.out.cell (i := 0) (v := .slice (some ⟨b, o, none⟩) up.length c) rfl
        have bt2 := HBt2.out.cell (i := 1) (v := .slice AF Fl.length cF) rfl
        have lt2 := HBt2.out.lt
        have H10 := hid (H10.out.ext xt2)
        have H11 := hid (H11.out.ext xt2)
        clear xt2
        clear at1 bt1 lt1 HBt1
        go_wp2_with fail
        refine ((HDp _ Xt2.out).out).mono ?_
        rintro e wt3 ⟨rfl, xt3⟩
        have Xt3 := hid (Xt2.out.trans xt3)
        have HBt3 := hid (HBt2.out.ext xt3)
        have at3 := HBt3.out.cell (i := 0) (v := .slice (some ⟨b, o, none⟩) up.length c) rfl
        have bt3 := HBt3.out.cell (i := 1) (v := .slice AF Fl.length cF) rfl
        have lt3 := HBt3.out.lt
        have H10 := hid (H10.out.ext xt3)
        have H11 := hid (H11.out.ext xt3)
        clear xt3
        clear at2 bt2 lt2 HBt2
        go_wp2_with fail
        refine ((HBe _ Xt3.out).out).mono ?_
        rintro e wt4 ⟨vt4, rfl, hvt4, xt4⟩
        have Xt4 := hid (Xt3.out.trans xt4)
        have HV := hid hvt4
        have HBt4 := hid (HBt3.out.ext xt4)
        have at4 := HBt4.out.cell (i := 0) (v := .slice (some ⟨b, o, none⟩) up.length c) rfl
        have bt4 := HBt4.out.cell (i := 1) (v := .slice AF Fl.length cF) rfl
        have lt4 := HBt4.out.lt
        have H10 := hid (H10.out.ext xt4)
        have H11 := hid (H11.out.ext xt4)
        clear xt4 hvt4
        clear at3 bt3 lt3 HBt3
        go_wp2_with fail
        refine (rints_c _ _ _ be HV.out H10.out HbeL).mono ?_
        rintro e wt5 ⟨rfl, xt5⟩
        have Xt5 := hid (Xt4.out.trans xt5)
        have HBt5 := hid (HBt4.out.ext xt5)
        have at5 := HBt5.out.cell (i := 0) (v := .slice (some ⟨b, o, none⟩) up.length c) rfl
        have bt5 := HBt5.out.cell (i := 1) (v := .slice AF Fl.length cF) rfl
        have lt5 := HBt5.out.lt
        have H11 := hid (H11.out.ext xt5)
        clear xt5
        clear at4 bt4 lt4 HBt4
        clear HV
        go_wp2_with fail
        refine ((HUn _ Xt5.out).out).mono ?_
        rintro e wt6 ⟨vt6, rfl, hvt6, xt6⟩
        have Xt6 := hid (Xt5.out.trans xt6)
        have HV := hid hvt6
        have HBt6 := hid (HBt5.out.ext xt6)
        have at6 := HBt6.out.cell (i := 0) (v := .slice (some ⟨b, o, none⟩) up.length c) rfl
        have bt6 := HBt6.out.cell (i := 1) (v := .slice AF Fl.length cF) rfl
        have lt6 := HBt6.out.lt
        have H11 := hid (H11.out.ext xt6)
        clear xt6 hvt6
        clear at5 bt5 lt5 HBt5
        go_wp2_with fail
        refine (rints_c _ _ _ un HV.out H11.out HunL).mono ?_
        rintro e wt7 ⟨rfl, xt7⟩
        have Xt7 := hid (Xt6.out.trans xt7)
        have HBt7 := hid (HBt6.out.ext xt7)
        have at7 := HBt7.out.cell (i := 0) (v := .slice (some ⟨b, o, none⟩) up.length c) rfl
        have bt7 := HBt7.out.cell (i := 1) (v := .slice AF Fl.length cF) rfl
        have lt7 := HBt7.out.lt
        clear xt7
        clear at6 bt6 lt6 HBt6
        clear HV
        go_wp2_with fail
        refine ((HLi _ Xt7.out).out).mono ?_
        rintro e wt8 ⟨rfl, xt8⟩
        have Xt8 := hid (Xt7.out.trans xt8)
        have HBt8 := hid (HBt7.out.ext xt8)
        have at8 := HBt8.out.cell (i := 0) (v := .slice (some ⟨b, o, none⟩) up.length c) rfl
        have bt8 := HBt8.out.cell (i := 1) (v := .slice AF Fl.length cF) rfl
        have lt8 := HBt8.out.lt
        clear xt8
        clear at7 bt7 lt7 HBt7
        go_wp2_with fail
        go_ret
        exact ⟨by simp, Xt8.out⟩
      | true =>
        cases d2 : decide (r ≤ (up.length : Int)) with
        | false =>
          have hin : inT up.length r = false := by unfold inT; rw [d2, Bool.and_false]
          obtain rfl : de = 0 := by have h9 := HDv.out; rw [if_neg (by rw [hin]; simp)] at h9; exact h9
          obtain rfl : li = false := by have h9 := HLv.out; rw [hin, Bool.false_and] at h9; exact h9
          clear hin HDv HLv HS1 HZ
          go_wp2_with fail
          refine ((HAw _ XR.out).out).mono ?_
          rintro e wt0 ⟨rfl, xt0⟩
          have Xt0 := hid (XR.out.trans xt0)
          have HBt0 := hid (HBR.out.ext xt0)
          have at0 := HBt0.out.cell (i := 0) (v := .slice (some ⟨b, o, none⟩) up.length c) rfl
          have bt0 := HBt0.out.cell (i := 1) (v := .slice AF Fl.length cF) rfl
          have lt0 := HBt0.out.lt
          have H10 := hid (H10.out.ext xt0)
          have H11 := hid (H11.out.ext xt0)
          clear xt0
          go_wp2_with fail
          refine ((HRo _ Xt0.out).out).mono ?_
          rintro e wt1 ⟨rfl, xt1⟩
          have Xt1 := hid (Xt0.out.trans xt1)
          have HBt1 := hid (HBt0.out.ext xt1)
          have at1 := HBt1.out.cell (i := 0) (v := .slice (some ⟨b, o, none⟩) up.length c) rfl
          have bt1 := HBt1.out.cell (i := 1) (v := .slice AF Fl.length cF) rfl
          have lt1 := HBt1.out.lt
          have H10 := hid (H10.out.ext xt1)
          have H11 := hid (H11.out.ext xt1)
          clear xt1
          clear at0 bt0 lt0 HBt0
          go_wp2_with fail
          refine ((HDe _ Xt1.out).out).mono ?_
          rintro e wt2 ⟨rfl, xt2⟩
          have Xt2 := hid (Xt1.out.trans xt2)
          have HBt2 := hid (HBt1.out.ext xt2)
          have at2 := HBt2.out.cell (i := 0) (v := .slice (some ⟨b, o, none⟩) up.length c) rfl
          have bt2 := HBt2.out.cell (i := 1) (v := .slice AF Fl.length cF) rfl
          have lt2 := HBt2.out.lt
          have H10 := hid (H10.out.ext xt2)
          have H11 := hid (H11.out.ext xt2)
          clear xt2
          clear at1 bt1 lt1 HBt1
          go_wp2_with fail
          refine ((HDp _ Xt2.out).out).mono ?_
          rintro e wt3 ⟨rfl, xt3⟩
          have Xt3 := hid (Xt2.out.trans xt3)
          have HBt3 := hid (HBt2.out.ext xt3)
          have at3 := HBt3.out.cell (i := 0) (v := .slice (some ⟨b, o, none⟩) up.length c) rfl
          have bt3 := HBt3.out.cell (i := 1) (v := .slice AF Fl.length cF) rfl
          have lt3 := HBt3.out.lt
          have H10 := hid (H10.out.ext xt3)
          have H11 := hid (H11.out.ext xt3)
          clear xt3
          clear at2 bt2 lt2 HBt2
          go_wp2_with fail
          refine ((HBe _ Xt3.out).out).mono ?_
          rintro e wt4 ⟨vt4, rfl, hvt4, xt4⟩
          have Xt4 := hid (Xt3.out.trans xt4)
          have HV := hid hvt4
          have HBt4 := hid (HBt3.out.ext xt4)
          have at4 := HBt4.out.cell (i := 0) (v := .slice (some ⟨b, o, none⟩) up.length c) rfl
          have bt4 := HBt4.out.cell (i := 1) (v := .slice AF Fl.length cF) rfl
          have lt4 := HBt4.out.lt
          have H10 := hid (H10.out.ext xt4)
          have H11 := hid (H11.out.ext xt4)
          clear xt4 hvt4
          clear at3 bt3 lt3 HBt3
          go_wp2_with fail
          refine (rints_c _ _ _ be HV.out H10.out HbeL).mono ?_
          rintro e wt5 ⟨rfl, xt5⟩
          have Xt5 := hid (Xt4.out.trans xt5)
          have HBt5 := hid (HBt4.out.ext xt5)
          have at5 := HBt5.out.cell (i := 0) (v := .slice (some ⟨b, o, none⟩) up.length c) rfl
          have bt5 := HBt5.out.cell (i := 1) (v := .slice AF Fl.length cF) rfl
          have lt5 := HBt5.out.lt
          have H11 := hid (H11.out.ext xt5)
          clear xt5
          clear at4 bt4 lt4 HBt4
          clear HV
          go_wp2_with fail
          refine ((HUn _ Xt5.out).out).mono ?_
          rintro e wt6 ⟨vt6, rfl, hvt6, xt6⟩
          have Xt6 := hid (Xt5.out.trans xt6)
          have HV := hid hvt6
          have HBt6 := hid (HBt5.out.ext xt6)
          have at6 := HBt6.out.cell (i := 0) (v := .slice (some ⟨b, o, none⟩) up.length c) rfl
          have bt6 := HBt6.out.cell (i := 1) (v := .slice AF Fl.length cF) rfl
          have lt6 := HBt6.out.lt
          have H11 := hid (H11.out.ext xt6)
          clear xt6 hvt6
          clear at5 bt5 lt5 HBt5
          go_wp2_with fail
          refine (rints_c _ _ _ un HV.out H11.out HunL).mono ?_
          rintro e wt7 ⟨rfl, xt7⟩
          have Xt7 := hid (Xt6.out.trans xt7)
          have HBt7 := hid (HBt6.out.ext xt7)
          have at7 := HBt7.out.cell (i := 0) (v := .slice (some ⟨b, o, none⟩) up.length c) rfl
          have bt7 := HBt7.out.cell (i := 1) (v := .slice AF Fl.length cF) rfl
          have lt7 := HBt7.out.lt
          clear xt7
          clear at6 bt6 lt6 HBt6
          clear HV
          go_wp2_with fail
          refine ((HLi _ Xt7.out).out).mono ?_
          rintro e wt8 ⟨rfl, xt8⟩
          have Xt8 := hid (Xt7.out.trans xt8)
          have HBt8 := hid (HBt7.out.ext xt8)
          have at8 := HBt8.out.cell (i := 0) (v := .slice (some ⟨b, o, none⟩) up.length c) rfl
          have bt8 := HBt8.out.cell (i := 1) (v := .slice AF Fl.length cF) rfl
          have lt8 := HBt8.out.lt
          clear xt8
          clear at7 bt7 lt7 HBt7
          go_wp2_with fail
          go_ret
          exact ⟨by simp, Xt8.out⟩
        | true =>
          have hin : inT up.length r = true := by unfold inT; rw [d1, d2]; rfl
          obtain rfl : de = stepsZ up r := by have h9 := HDv.out; rw [if_pos hin] at h9; exact h9
          have HLv : Hid (li = (inT up.length s && (upAt up r == s || upAt up s == r))) := by have h9 := HLv.out; rw [hin, Bool.true_and] at h9; exact h9
          obtain ⟨kr, hkr, hrk, hupr⟩ := upAt_get (inT_iff.1 hin)
          have hupr := hupr hkr
          obtain rfl : r = (kr : Int) + 1 := by omega
          rw [hupr] at HLv
          have HSr := fun W (hW : Ext w W) => HS1 W hW ((kr : Int) + 1)
          generalize stepsZ up ((kr : Int) + 1) = de at HSr HDp
          clear HS1 HDv hin hrk hupr
          cases e1 : decide (1 ≤ s) with
          | false =>
            obtain rfl : li = false := by have h9 := HLv.out; rw [show inT up.length s = false by unfold inT; rw [e1]; rfl, Bool.false_and] at h9; exact h9
            clear HLv HZ
            go_wp2_with fail
            refine ((HSr _ XR.out).out).mono ?_
            rintro e wS ⟨rfl, xS⟩
            have XS := hid (XR.out.trans xS)
            have HBS := hid (HBR.out.ext xS)
            have aS := HBS.out.cell (i := 0) (v := .slice (some ⟨b, o, none⟩) up.length c) rfl
            have bS := HBS.out.cell (i := 1) (v := .slice AF Fl.length cF) rfl
            have lS := HBS.out.lt
            have H10 := hid (H10.out.ext xS)
            have H11 := hid (H11.out.ext xS)
            have mS := Nat.lt_of_lt_of_le lbr xS.size
            clear xS aR bR lR lbr HBR XR HSr
            go_wp2_with fail
            refine ((HAw _ XS.out).out).mono ?_
            rintro e wt0 ⟨rfl, xt0⟩
            have Xt0 := hid (XS.out.trans xt0)
            have HBt0 := hid (HBS.out.ext xt0)
            have at0 := HBt0.out.cell (i := 0) (v := .slice (some ⟨b, o, none⟩) up.length c) rfl
            have bt0 := HBt0.out.cell (i := 1) (v := .slice AF Fl.length cF) rfl
            have lt0 := HBt0.out.lt
            have H10 := hid (H10.out.ext xt0)
            have H11 := hid (H11.out.ext xt0)
            clear xt0
            go_wp2_with fail
            refine ((HRo _ Xt0.out).out).mono ?_
            rintro e wt1 ⟨rfl, xt1⟩
            have Xt1 := hid (Xt0.out.trans xt1)
            have HBt1 := hid (HBt0.out.ext xt1)
            have at1 := HBt1.out.cell (i := 0) (v := .slice (some ⟨b, o, none⟩) up.length c) rfl
            have bt1 := HBt1.out.cell (i := 1) (v := .slice AF Fl.length cF) rfl
            have lt1 := HBt1.out.lt
            have H10 := hid (H10.out.ext xt1)
            have H11 := hid (H11.out.ext xt1)
            clear xt1
            clear at0 bt0 lt0 HBt0
            go_wp2_with fail
            refine ((HDe _ Xt1.out).out).mono ?_
            rintro e wt2 ⟨rfl, xt2⟩
            have Xt2 := hid (Xt1.out.trans xt2)
            have HBt2 := hid (HBt1.out.ext xt2)
            have at2 := HBt2.out.cell (i := 0) (v := .slice (some ⟨b, o, none⟩) up.length c) rfl
            have bt2 := HBt2.out.cell (i := 1) (v := .slice AF Fl.length cF) rfl
            have lt2 := HBt2.out.lt
            have H10 := hid (H10.out.ext xt2)
            have H11 := hid (H11.out.ext xt2)
            clear xt2
            clear at1 bt1 lt1 HBt1
            go_wp2_with fail
            refine ((HDp _ Xt2.out).out).mono ?_
            rintro e wt3 ⟨rfl, xt3⟩
            have Xt3 := hid (Xt2.out.trans xt3)
            have HBt3 := hid (HBt2.out.ext xt3)
            have at3 := HBt3.out.cell (i := 0) (v := .slice (some ⟨b, o, none⟩) up.length c) rfl
            have bt3 := HBt3.out.cell (i := 1) (v := .slice AF Fl.length cF) rfl
            have lt3 := HBt3.out.lt
            have H10 := hid (H10.out.ext xt3)
            have H11 := hid (H11.out.ext xt3)
            clear xt3
            clear at2 bt2 lt2 HBt2
            go_wp2_with fail
            refine ((HBe _ Xt3.out).out).mono ?_
            rintro e wt4 ⟨vt4, rfl, hvt4, xt4⟩
            have Xt4 := hid (Xt3.out.trans xt4)
            have HV := hid hvt4
            have HBt4 := hid (HBt3.out.ext xt4)
            have at4 := HBt4.out.cell (i := 0) (v := .slice (some ⟨b, o, none⟩) up.length c) rfl
            have bt4 := HBt4.out.cell (i := 1) (v := .slice AF Fl.length cF) rfl
            have lt4 := HBt4.out.lt
            have H10 := hid (H10.out.ext xt4)
            have H11 := hid (H11.out.ext xt4)
            clear xt4 hvt4
            clear at3 bt3 lt3 HBt3
            go_wp2_with fail
            refine (rints_c _ _ _ be HV.out H10.out HbeL).mono ?_
            rintro e wt5 ⟨rfl, xt5⟩
            have Xt5 := hid (Xt4.out.trans xt5)
            have HBt5 := hid (HBt4.out.ext xt5)
            have at5 := HBt5.out.cell (i := 0) (v := .slice (some ⟨b, o, none⟩) up.length c) rfl
            have bt5 := HBt5.out.cell (i := 1) (v := .slice AF Fl.length cF) rfl
            have lt5 := HBt5.out.lt
            have H11 := hid (H11.out.ext xt5)
            clear xt5
            clear at4 bt4 lt4 HBt4
            clear HV
            go_wp2_with fail
            refine ((HUn _ Xt5.out).out).mono ?_
            rintro e wt6 ⟨vt6, rfl, hvt6, xt6⟩
            have Xt6 := hid (Xt5.out.trans xt6)
            have HV := hid hvt6
            have HBt6 := hid (HBt5.out.ext xt6)
            have at6 := HBt6.out.cell (i := 0) (v := .slice (some ⟨b, o, none⟩) up.length c) rfl
            have bt6 := HBt6.out.cell (i := 1) (v := .slice AF Fl.length cF) rfl
            have lt6 := HBt6.out.lt
            have H11 := hid (H11.out.ext xt6)
            clear xt6 hvt6
            clear at5 bt5 lt5 HBt5
            go_wp2_with fail
            refine (rints_c _ _ _ un HV.out H11.out HunL).mono ?_
            rintro e wt7 ⟨rfl, xt7⟩
            have Xt7 := hid (Xt6.out.trans xt7)
            have HBt7 := hid (HBt6.out.ext xt7)
            have at7 := HBt7.out.cell (i := 0) (v := .slice (some ⟨b, o, none⟩) up.length c) rfl
            have bt7 := HBt7.out.cell (i := 1) (v := .slice AF Fl.length cF) rfl
            have lt7 := HBt7.out.lt
            clear xt7
            clear at6 bt6 lt6 HBt6
            clear HV
            go_wp2_with fail
            refine ((HLi _ Xt7.out).out).mono ?_
            rintro e wt8 ⟨rfl, xt8⟩
            have Xt8 := hid (Xt7.out.trans xt8)
            have HBt8 := hid (HBt7.out.ext xt8)
            have at8 := HBt8.out.cell (i := 0) (v := .slice (some ⟨b, o, none⟩) up.length c) rfl
            have bt8 := HBt8.out.cell (i := 1) (v := .slice AF Fl.length cF) rfl
            have lt8 := HBt8.out.lt
            clear xt8
            clear at7 bt7 lt7 HBt7
            go_wp2_with fail
            go_ret
            exact ⟨by simp, Xt8.out⟩
          | true =>
            cases e2 : decide (s ≤ (up.length : Int)) with
            | false =>
              obtain rfl : li = false := by have h9 := HLv.out; rw [show inT up.length s = false by unfold inT; rw [e2, Bool.and_false], Bool.false_and] at h9; exact h9
              clear HLv HZ
              go_wp2_with fail
              refine ((HSr _ XR.out).out).mono ?_
              rintro e wS ⟨rfl, xS⟩
              have XS := hid (XR.out.trans xS)
              have HBS := hid (HBR.out.ext xS)
              have aS := HBS.out.cell (i := 0) (v := .slice (some ⟨b, o, none⟩) up.length c) rfl
              have bS := HBS.out.cell (i := 1) (v := .slice AF Fl.length cF) rfl
              have lS := HBS.out.lt
              have H10 := hid (H10.out.ext xS)
              have H11 := hid (H11.out.ext xS)
              have mS := Nat.lt_of_lt_of_le lbr xS.size
              clear xS aR bR lR lbr HBR XR HSr
              go_wp2_with fail
              refine ((HAw _ XS.out).out).mono ?_
              rintro e wt0 ⟨rfl, xt0⟩
              have Xt0 := hid (XS.out.trans xt0)
              have HBt0 := hid (HBS.out.ext xt0)
              have at0 := HBt0.out.cell (i := 0) (v := .slice (some ⟨b, o, none⟩) up.length c) rfl
              have bt0 := HBt0.out.cell (i := 1) (v := .slice AF Fl.length cF) rfl
              have lt0 := HBt0.out.lt
              have H10 := hid (H10.out.ext xt0)
              have H11 := hid (H11.out.ext xt0)
              clear xt0
              go_wp2_with fail
              refine ((HRo _ Xt0.out).out).mono ?_
              rintro e wt1 ⟨rfl, xt1⟩
              have Xt1 := hid (Xt0.out.trans xt1)
              have HBt1 := hid (HBt0.out.ext xt1)
              have at1 := HBt1.out.cell (i := 0) (v := .slice (some ⟨b, o, none⟩) up.length c) rfl
              have bt1 := HBt1.out.cell (i := 1) (v := .slice AF Fl.length cF) rfl
              have lt1 := HBt1.out.lt
              have H10 := hid (H10.out.ext xt1)
              have H11 := hid (H11.out.ext xt1)
              clear xt1
              clear at0 bt0 lt0 HBt0
              go_wp2_with fail
              refine ((HDe _ Xt1.out).out).mono ?_
              rintro e wt2 ⟨rfl, xt2⟩
              have Xt2 := hid (Xt1.out.trans xt2)
              have HBt2 := hid (HBt1.out.ext xt2)
              have at2 := HBt2.out.cell (i := 0) (v := .slice (some ⟨b, o, none⟩) up.length c) rfl
              have bt2 := HBt2.out.cell (i := 1) (v := .slice AF Fl.length cF) rfl
              have lt2 := HBt2.out.lt
              have H10 := hid (H10.out.ext xt2)
              have H11 := hid (H11.out.ext xt2)
              clear xt2
              clear at1 bt1 lt1 HBt1
              go_wp2_with fail
              refine ((HDp _ Xt2.out).out).mono ?_
              rintro e wt3 ⟨rfl, xt3⟩
              have Xt3 := hid (Xt2.out.trans xt3)
              have HBt3 := hid (HBt2.out.ext xt3)
              have at3 := HBt3.out.cell (i := 0) (v := .slice (some ⟨b, o, none⟩) up.length c) rfl
              have bt3 := HBt3.out.cell (i := 1) (v := .slice AF Fl.length cF) rfl
              have lt3 := HBt3.out.lt
              have H10 := hid (H10.out.ext xt3)
              have H11 := hid (H11.out.ext xt3)
              clear xt3
              clear at2 bt2 lt2 HBt2
              go_wp2_with fail
              refine ((HBe _ Xt3.out).out).mono ?_
              rintro e wt4 ⟨vt4, rfl, hvt4, xt4⟩
              have Xt4 := hid (Xt3.out.trans xt4)
              have HV := hid hvt4
              have HBt4 := hid (HBt3.out.ext xt4)
              have at4 := HBt4.out.cell (i := 0) (v := .slice (some ⟨b, o, none⟩) up.length c) rfl
              have bt4 := HBt4.out.cell (i := 1) (v := .slice AF Fl.length cF) rfl
              have lt4 := HBt4.out.lt
              have H10 := hid (H10.out.ext xt4)
              have H11 := hid (H11.out.ext xt4)
              clear xt4 hvt4
              clear at3 bt3 lt3 HBt3
              go_wp2_with fail
              refine (rints_c _ _ _ be HV.out H10.out HbeL).mono ?_
              rintro e wt5 ⟨rfl, xt5⟩
              have Xt5 := hid (Xt4.out.trans xt5)
              have HBt5 := hid (HBt4.out.ext xt5)
              have at5 := HBt5.out.cell (i := 0) (v := .slice (some ⟨b, o, none⟩) up.length c) rfl
              have bt5 := HBt5.out.cell (i := 1) (v := .slice AF Fl.length cF) rfl
              have lt5 := HBt5.out.lt
              have H11 := hid (H11.out.ext xt5)
              clear xt5
              clear at4 bt4 lt4 HBt4
              clear HV
              go_wp2_with fail
              refine ((HUn _ Xt5.out).out).mono ?_
              rintro e wt6 ⟨vt6, rfl, hvt6, xt6⟩
              have Xt6 := hid (Xt5.out.trans xt6)
              have HV := hid hvt6
              have HBt6 := hid (HBt5.out.ext xt6)
              have at6 := HBt6.out.cell (i := 0) (v := .slice (some ⟨b, o, none⟩) up.length c) rfl
              have bt6 := HBt6.out.cell (i := 1) (v := .slice AF Fl.length cF) rfl
              have lt6 := HBt6.out.lt
              have H11 := hid (H11.out.ext xt6)
              clear xt6 hvt6
              clear at5 bt5 lt5 HBt5
              go_wp2_with fail
              refine (rints_c _ _ _ un HV.out H11.out HunL).mono ?_
              rintro e wt7 ⟨rfl, xt7⟩
              have Xt7 := hid (Xt6.out.trans xt7)
              have HBt7 := hid (HBt6.out.ext xt7)
              have at7 := HBt7.out.cell (i := 0) (v := .slice (some ⟨b, o, none⟩) up.length c) rfl
              have bt7 := HBt7.out.cell (i := 1) (v := .slice AF Fl.length cF) rfl
              have lt7 := HBt7.out.lt
              clear xt7
              clear at6 bt6 lt6 HBt6
              clear HV
              go_wp2_with fail
              refine ((HLi _ Xt7.out).out).mono ?_
              rintro e wt8 ⟨rfl, xt8⟩
              have Xt8 := hid (Xt7.out.trans xt8)
              have HBt8 := hid (HBt7.out.ext xt8)
              have at8 := HBt8.out.cell (i := 0) (v := .slice (some ⟨b, o, none⟩) up.length c) rfl
              have bt8 := HBt8.out.cell (i := 1) (v := .slice AF Fl.length cF) rfl
              have lt8 := HBt8.out.lt
              clear xt8
              clear at7 bt7 lt7 HBt7
              go_wp2_with fail
              go_ret
              exact ⟨by simp, Xt8.out⟩
            | true =>
              have hin : inT up.length s = true := by unfold inT; rw [e1, e2]; rfl
              obtain ⟨js, hjs, hsk, hups⟩ := upAt_get (inT_iff.1 hin)
              have hups := hups hjs
              obtain rfl : s = (js : Int) + 1 := by omega
              have HLv : Hid (li = (up[kr] == (js : Int) + 1 || up[js] == (kr : Int) + 1)) := by have h9 := HLv.out; rw [hin, Bool.true_and, hups] at h9; exact h9
              have ckR := HZ.out _ XR.out kr hkr
              have cjR := HZ.out _ XR.out js hjs
              clear hin hsk hups HZ
              generalize up[kr] = zk at ckR HLv
              generalize up[js] = zj at cjR HLv
              cases hl1 : zk == (js : Int) + 1 with
              | true =>
                obtain rfl : li = true := by have h9 := HLv.out; rw [hl1, Bool.true_or] at h9; exact h9
                clear HLv
                go_wp2_with fail
                refine ((HSr _ XR.out).out).mono ?_
                rintro e wS ⟨rfl, xS⟩
                have XS := hid (XR.out.trans xS)
                have HBS := hid (HBR.out.ext xS)
                have aS := HBS.out.cell (i := 0) (v := .slice (some ⟨b, o, none⟩) up.length c) rfl
                have bS := HBS.out.cell (i := 1) (v := .slice AF Fl.length cF) rfl
                have lS := HBS.out.lt
                have H10 := hid (H10.out.ext xS)
                have H11 := hid (H11.out.ext xS)
                have mS := Nat.lt_of_lt_of_le lbr xS.size
                have ckS := xS.cell ckR
                have cjS := xS.cell cjR
                clear xS aR bR lR lbr HBR XR HSr ckR cjR
                go_wp2_with fail
                refine ((HAw _ XS.out).out).mono ?_
                rintro e wt0 ⟨rfl, xt0⟩
                have Xt0 := hid (XS.out.trans xt0)
                have HBt0 := hid (HBS.out.ext xt0)
                have at0 := HBt0.out.cell (i := 0) (v := .slice (some ⟨b, o, none⟩) up.length c) rfl
                have bt0 := HBt0.out.cell (i := 1) (v := .slice AF Fl.length cF) rfl
                have lt0 := HBt0.out.lt
                have H10 := hid (H10.out.ext xt0)
                have H11 := hid (H11.out.ext xt0)
                clear xt0
                go_wp2_with fail
                refine ((HRo _ Xt0.out).out).mono ?_
                rintro e wt1 ⟨rfl, xt1⟩
                have Xt1 := hid (Xt0.out.trans xt1)
                have HBt1 := hid (HBt0.out.ext xt1)
                have at1 := HBt1.out.cell (i := 0) (v := .slice (some ⟨b, o, none⟩) up.length c) rfl
                have bt1 := HBt1.out.cell (i := 1) (v := .slice AF Fl.length cF) rfl
                have lt1 := HBt1.out.lt
                have H10 := hid (H10.out.ext xt1)
                have H11 := hid (H11.out.ext xt1)
                clear xt1
                clear at0 bt0 lt0 HBt0
                go_wp2_with fail
                refine ((HDe _ Xt1.out).out).mono ?_
                rintro e wt2 ⟨rfl, xt2⟩
                have Xt2 := hid (Xt1.out.trans xt2)
                have HBt2 := hid (HBt1.out.ext xt2)
                have at2 := HBt2.out.cell (i := 0) (v := .slice (some ⟨b, o, none⟩) up.length c) rfl
                have bt2 := HBt2.out.cell (i := 1) (v := .slice AF Fl.length cF) rfl
                have lt2 := HBt2.out.lt
                have H10 := hid (H10.out.ext xt2)
                have H11 := hid (H11.out.ext xt2)
                clear xt2
                clear at1 bt1 lt1 HBt1
                go_wp2_with fail
                refine ((HDp _ Xt2.out).out).mono ?_
                rintro e wt3 ⟨rfl, xt3⟩
                have Xt3 := hid (Xt2.out.trans xt3)
                have HBt3 := hid (HBt2.out.ext xt3)
                have at3 := HBt3.out.cell (i := 0) (v := .slice (some ⟨b, o, none⟩) up.length c) rfl
                have bt3 := HBt3.out.cell (i := 1) (v := .slice AF Fl.length cF) rfl
                have lt3 := HBt3.out.lt
                have H10 := hid (H10.out.ext xt3)
                have H11 := hid (H11.out.ext xt3)
                clear xt3
                clear at2 bt2 lt2 HBt2
                go_wp2_with fail
                refine ((HBe _ Xt3.out).out).mono ?_
                rintro e wt4 ⟨vt4, rfl, hvt4, xt4⟩
                have Xt4 := hid (Xt3.out.trans xt4)
                have HV := hid hvt4
                have HBt4 := hid (HBt3.out.ext xt4)
                have at4 := HBt4.out.cell (i := 0) (v := .slice (some ⟨b, o, none⟩) up.length c) rfl
                have bt4 := HBt4.out.cell (i := 1) (v := .slice AF Fl.length cF) rfl
                have lt4 := HBt4.out.lt
                have H10 := hid (H10.out.ext xt4)
                have H11 := hid (H11.out.ext xt4)
                clear xt4 hvt4
                clear at3 bt3 lt3 HBt3
                go_wp2_with fail
                refine (rints_c _ _ _ be HV.out H10.out HbeL).mono ?_
                rintro e wt5 ⟨rfl, xt5⟩
                have Xt5 := hid (Xt4.out.trans xt5)
                have HBt5 := hid (HBt4.out.ext xt5)
                have at5 := HBt5.out.cell (i := 0) (v := .slice (some ⟨b, o, none⟩) up.length c) rfl
                have bt5 := HBt5.out.cell (i := 1) (v := .slice AF Fl.length cF) rfl
                have lt5 := HBt5.out.lt
                have H11 := hid (H11.out.ext xt5)
                clear xt5
                clear at4 bt4 lt4 HBt4
                clear HV
                go_wp2_with fail
                refine ((HUn _ Xt5.out).out).mono ?_
                rintro e wt6 ⟨vt6, rfl, hvt6, xt6⟩
                have Xt6 := hid (Xt5.out.trans xt6)
                have HV := hid hvt6
                have HBt6 := hid (HBt5.out.ext xt6)
                have at6 := HBt6.out.cell (i := 0) (v := .slice (some ⟨b, o, none⟩) up.length c) rfl
                have bt6 := HBt6.out.cell (i := 1) (v := .slice AF Fl.length cF) rfl
                have lt6 := HBt6.out.lt
                have H11 := hid (H11.out.ext xt6)
                clear xt6 hvt6
                clear at5 bt5 lt5 HBt5
                go_wp2_with fail
                refine (rints_c _ _ _ un HV.out H11.out HunL).mono ?_
                rintro e wt7 ⟨rfl, xt7⟩
                have Xt7 := hid (Xt6.out.trans xt7)
                have HBt7 := hid (HBt6.out.ext xt7)
                have at7 := HBt7.out.cell (i := 0) (v := .slice (some ⟨b, o, none⟩) up.length c) rfl
                have bt7 := HBt7.out.cell (i := 1) (v := .slice AF Fl.length cF) rfl
                have lt7 := HBt7.out.lt
                clear xt7
                clear at6 bt6 lt6 HBt6
                clear HV
                go_wp2_with fail
                refine ((HLi _ Xt7.out).out).mono ?_
                rintro e wt8 ⟨rfl, xt8⟩
                have Xt8 := hid (Xt7.out.trans xt8)
                have HBt8 := hid (HBt7.out.ext xt8)
                have at8 := HBt8.out.cell (i := 0) (v := .slice (some ⟨b, o, none⟩) up.length c) rfl
                have bt8 := HBt8.out.cell (i := 1) (v := .slice AF Fl.length cF) rfl
                have lt8 := HBt8.out.lt
                clear xt8
                clear at7 bt7 lt7 HBt7
                go_wp2_with fail
                go_ret
                exact ⟨by simp, Xt8.out⟩
              | false =>
                obtain rfl : li = (zj == (kr : Int) + 1) := by have h9 := HLv.out; rw [hl1, Bool.false_or] at h9; exact h9
                clear HLv
                go_wp2_with fail
                refine ((HSr _ XR.out).out).mono ?_
                rintro e wS ⟨rfl, xS⟩
                have XS := hid (XR.out.trans xS)
                have HBS := hid (HBR.out.ext xS)
                have aS := HBS.out.cell (i := 0) (v := .slice (some ⟨b, o, none⟩) up.length c) rfl
                have bS := HBS.out.cell (i := 1) (v := .slice AF Fl.length cF) rfl
                have lS := HBS.out.lt
                have H10 := hid (H10.out.ext xS)
                have H11 := hid (H11.out.ext xS)
                have mS := Nat.lt_of_lt_of_le lbr xS.size
                have ckS := xS.cell ckR
                have cjS := xS.cell cjR
                clear xS aR bR lR lbr HBR XR HSr ckR cjR
                go_wp2_with fail
                refine ((HAw _ XS.out).out).mono ?_
                rintro e wt0 ⟨rfl, xt0⟩
                have Xt0 := hid (XS.out.trans xt0)
                have HBt0 := hid (HBS.out.ext xt0)
                have at0 := HBt0.out.cell (i := 0) (v := .slice (some ⟨b, o, none⟩) up.length c) rfl
                have bt0 := HBt0.out.cell (i := 1) (v := .slice AF Fl.length cF) rfl
                have lt0 := HBt0.out.lt
                have H10 := hid (H10.out.ext xt0)
                have H11 := hid (H11.out.ext xt0)
                clear xt0
                go_wp2_with fail
                refine ((HRo _ Xt0.out).out).mono ?_
                rintro e wt1 ⟨rfl, xt1⟩
                have Xt1 := hid (Xt0.out.trans xt1)
                have HBt1 := hid (HBt0.out.ext xt1)
                have at1 := HBt1.out.cell (i := 0) (v := .slice (some ⟨b, o, none⟩) up.length c) rfl
                have bt1 := HBt1.out.cell (i := 1) (v := .slice AF Fl.length cF) rfl
                have lt1 := HBt1.out.lt
                have H10 := hid (H10.out.ext xt1)
                have H11 := hid (H11.out.ext xt1)
                clear xt1
                clear at0 bt0 lt0 HBt0
                go_wp2_with fail
                refine ((HDe _ Xt1.out).out).mono ?_
                rintro e wt2 ⟨rfl, xt2⟩
                have Xt2 := hid (Xt1.out.trans xt2)
                have HBt2 := hid (HBt1.out.ext xt2)
                have at2 := HBt2.out.cell (i := 0) (v := .slice (some ⟨b, o, none⟩) up.length c) rfl
                have bt2 := HBt2.out.cell (i := 1) (v := .slice AF Fl.length cF) rfl
                have lt2 := HBt2.out.lt
                have H10 := hid (H10.out.ext xt2)
                have H11 := hid (H11.out.ext xt2)
                clear xt2
                clear at1 bt1 lt1 HBt1
                go_wp2_with fail
                refine ((HDp _ Xt2.out).out).mono ?_
                rintro e wt3 ⟨rfl, xt3⟩
                have Xt3 := hid (Xt2.out.trans xt3)
                have HBt3 := hid (HBt2.out.ext xt3)
                have at3 := HBt3.out.cell (i := 0) (v := .slice (some ⟨b, o, none⟩) up.length c) rfl
                have bt3 := HBt3.out.cell (i := 1) (v := .slice AF Fl.length cF) rfl
                have lt3 := HBt3.out.lt
                have H10 := hid (H10.out.ext xt3)
                have H11 := hid (H11.out.ext xt3)
                clear xt3
                clear at2 bt2 lt2 HBt2
                go_wp2_with fail
                refine ((HBe _ Xt3.out).out).mono ?_
                rintro e wt4 ⟨vt4, rfl, hvt4, xt4⟩
                have Xt4 := hid (Xt3.out.trans xt4)
                have HV := hid hvt4
                have HBt4 := hid (HBt3.out.ext xt4)
                have at4 := HBt4.out.cell (i := 0) (v := .slice (some ⟨b, o, none⟩) up.length c) rfl
                have bt4 := HBt4.out.cell (i := 1) (v := .slice AF Fl.length cF) rfl
                have lt4 := HBt4.out.lt
                have H10 := hid (H10.out.ext xt4)
                have H11 := hid (H11.out.ext xt4)
                clear xt4 hvt4
                clear at3 bt3 lt3 HBt3
                go_wp2_with fail
                refine (rints_c _ _ _ be HV.out H10.out HbeL).mono ?_
                rintro e wt5 ⟨rfl, xt5⟩
                have Xt5 := hid (Xt4.out.trans xt5)
                have HBt5 := hid (HBt4.out.ext xt5)
                have at5 := HBt5.out.cell (i := 0) (v := .slice (some ⟨b, o, none⟩) up.length c) rfl
                have bt5 := HBt5.out.cell (i := 1) (v := .slice AF Fl.length cF) rfl
                have lt5 := HBt5.out.lt
                have H11 := hid (H11.out.ext xt5)
                clear xt5
                clear at4 bt4 lt4 HBt4
                clear HV
                go_wp2_with fail
                refine ((HUn _ Xt5.out).out).mono ?_
                rintro e wt6 ⟨vt6, rfl, hvt6, xt6⟩
                have Xt6 := hid (Xt5.out.trans xt6)
                have HV := hid hvt6
                have HBt6 := hid (HBt5.out.ext xt6)
                have at6 := HBt6.out.cell (i := 0) (v := .slice (some ⟨b, o, none⟩) up.length c) rfl
                have bt6 := HBt6.out.cell (i := 1) (v := .slice AF Fl.length cF) rfl
                have lt6 := HBt6.out.lt
                have H11 := hid (H11.out.ext xt6)
                clear xt6 hvt6
                clear at5 bt5 lt5 HBt5
                go_wp2_with fail
                refine (rints_c _ _ _ un HV.out H11.out HunL).mono ?_
                rintro e wt7 ⟨rfl, xt7⟩
                have Xt7 := hid (Xt6.out.trans xt7)
                have HBt7 := hid (HBt6.out.ext xt7)
                have at7 := HBt7.out.cell (i := 0) (v := .slice (some ⟨b, o, none⟩) up.length c) rfl
                have bt7 := HBt7.out.cell (i := 1) (v := .slice AF Fl.length cF) rfl
                have lt7 := HBt7.out.lt
                clear xt7
                clear at6 bt6 lt6 HBt6
                clear HV
                go_wp2_with fail
                refine ((HLi _ Xt7.out).out).mono ?_
                rintro e wt8 ⟨rfl, xt8⟩
                have Xt8 := hid (Xt7.out.trans xt8)
                have HBt8 := hid (HBt7.out.ext xt8)
                have at8 := HBt8.out.cell (i := 0) (v := .slice (some ⟨b, o, none⟩) up.length c) rfl
                have bt8 := HBt8.out.cell (i := 1) (v := .slice AF Fl.length cF) rfl
                have lt8 := HBt8.out.lt
                clear xt8
                clear at7 bt7 lt7 HBt7
                go_wp2_with fail
                go_ret
                exact ⟨by simp, Xt8.out⟩
end Go.Proofs.YtjnjamhohnnefaaGreatDoor
