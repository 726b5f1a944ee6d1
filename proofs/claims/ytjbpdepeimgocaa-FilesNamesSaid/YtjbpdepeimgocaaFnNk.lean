/-
  The law FilesNames: its walk.
-/
import Derived.Test.YtjbpdepeimgocaaQaB
import Derived.Test.YtjbpdepeimgocaaQaC
import Derived.BigQuiet
namespace Go.Proofs.Ytjbpdepeimgocaa
set_option linter.unusedSimpArgs false
set_option linter.unusedVariables false
open Go.RowKit Go.Sort

theorem fine_size {u : UpdI} (h : Fine u) : u.p.size ≤ 200 := by
  have := h.1
  unfold lightU at this
  simp only [Bool.and_eq_true, decide_eq_true_eq] at this
  omega
theorem rights_take {l : List UpdI} {k : Nat} (h : k < l.length) : (l.take (k + 1)).filter rightU = if rightU l[k] then (l.take k).filter rightU ++ [l[k]] else (l.take k).filter rightU := by
  rw [List.take_succ_eq_append_getElem h, List.filter_append, List.filter_cons, List.filter_nil]
  split <;> simp
theorem rights_len (l : List UpdI) (k : Nat) : ((l.take k).filter rightU).length ≤ k := by
  have h1 := List.length_filter_le rightU (l.take k)
  rw [List.length_take] at h1
  omega
theorem beq_toL (a b : ByteArray) : (a.toList == b.toList) = decide (a = b) := by
  rw [Bool.eq_iff_iff, decide_eq_true_eq, beq_iff_eq, Lib.toList_data, Lib.toList_data]
  constructor
  · intro h
    exact ByteArray.ext (Array.ext' h)
  · rintro rfl; rfl
theorem liveN_le (l : List UpdI) (k : Nat) : liveN l k ≤ k := by
  unfold liveN
  have := List.length_filter_le (bestB l) (List.range k)
  rwa [List.length_range] at this
theorem alive_len (l : List UpdI) : (aliveK l).length ≤ l.length := by
  rw [← liveN_all]
  unfold liveN
  have := List.length_filter_le (bestB l) (List.range l.length)
  rwa [List.length_range] at this
set_option maxRecDepth 100000 in
set_option maxHeartbeats 8000000 in
theorem filesNames_walk (w : World) (v : Value) (l : List UpdI) (h : Sl w 8 v (l.map UpdI.cells)) (hk : ∀ u ∈ l, okV u.item) : Calls Try.prog 3 #[v] w (Ret (.bool true) w) := by
  have HFw := hid (few20_e w v l h hk)
  obtain ⟨A, c, rfl, _⟩ := sl_get h
  clear h hk
  go_enter Try.func3, Try.ntmps3
  go_wp2_with (go_at_call 4; refine (HFw.out).mono ?_; rintro e w0 ⟨v0, rfl, ⟨bs, hbs, hbl, hbf⟩, hx⟩; have HX0 := hid hx; obtain ⟨A0, c0', rfl, g1, g2, g3⟩ := sl_get hbs.1; have HF0 := hid hbf; clear hbs hx hbf)
  unfold maxLen at g2
  clear HFw
  go_loopw [3, 4] (fun ou i wr => ∃ k : Nat, k ≤ bs.length ∧ i = .int .i64 k ∧ Ext w0 wr ∧ (((bs.take k).filter rightU).length = 0 → ou = .slice none 0 0) ∧ wr.ownsRow w0.heap.size 30 8 ou ((bs.take k).filter rightU).length (((bs.take k).filter rightU).map UpdI.cells).flatten) (fun _ i _ => bs.length - (intOf i).toNat)
  case atStart => exact ⟨0, by omega, rfl, Ext.refl _, (fun _ => rfl), ownsRow_nil _ _ _ _⟩
  case round =>
    obtain ⟨k, hk, rfl, hE, hz, hO⟩ := hrel
    have HE := hid hE
    have HO := hid hO
    have HZ := hid hz
    by_cases hlt : k < bs.length
    · obtain ⟨b, o, rfl, lb, hcell⟩ := g3 (by omega)
      have c0 := hE.cell (hcell k hlt 0 _ rfl)
      have c1 := hE.cell (hcell k hlt 1 _ rfl)
      have c2 := hE.cell (hcell k hlt 2 _ rfl)
      have c3 := hE.cell (hcell k hlt 3 _ rfl)
      have c4 := hE.cell (hcell k hlt 4 _ rfl)
      have c5 := hE.cell (hcell k hlt 5 _ rfl)
      have c6 := hE.cell (hcell k hlt 6 _ rfl)
      have c7 := hE.cell (hcell k hlt 7 _ rfl)
      rw [Nat.add_zero] at c0
      have lbr := Nat.lt_of_lt_of_le lb hE.size
      have hsz := fine_size (HF0.out _ (List.getElem_mem hlt))
      have HM := hid (rights_take hlt)
      have hln := rights_len bs k
      clear hcell g3 hE hz hO lb HF0
      generalize (bs.take k).filter rightU = acc at HO HZ HM hln
      generalize bs[k] = x at c0 c1 c2 c3 c4 c5 c6 c7 hsz HM
      have HL := fun W => hid (uright_c W x (by omega))
      unfold UpdI.val at HL
      clear hsz
      cases hlx : rightU x with
      | false =>
        rw [hlx] at HL HM
        rw [if_neg Bool.false_ne_true] at HM
        clear hlx
        go_wp2_with (go_at_call 5; refine ((HL _).out).mono ?_; rintro e w2 ⟨rfl, hx2⟩; have HX2 := hid hx2; clear hx2)
        go_roundw
        case rel => exact ⟨k + 1, by omega, by go_num, HE.out.trans HX2.out, (by rw [HM.out]; exact HZ.out), by rw [HM.out]; exact ownsRow_ext HO.out HX2.out⟩
        case measure => simp [intOf]; omega
      | true =>
        rw [hlx] at HL HM
        rw [if_pos rfl] at HM
        clear hlx
        go_wp2_with (first
          | (at_builtin; obtain ⟨v', w6, hrun6, ho6, hk6, _⟩ := app_one (P := Try.prog) upd_elem upd_coded (ownsRow_ext HO.out HX2.out) (Nat.le_trans HE.out.size HX2.out.size) x (by omega) (by omega); simp only [UpdI.cells] at hrun6; have HE6 := hid (hk6.toExt (HE.out.trans HX2.out) (fun q hq => (row_block HO.out q hq).1)); have HO6 := hid ho6; clear ho6 hk6; refine wpList_app rfl (.tmp 25) (.tmp 30) _ _ rfl rfl rfl hrun6 ?_)
          | (go_at_call 5; refine ((HL _).out).mono ?_; rintro e w2 ⟨rfl, hx2⟩; have HX2 := hid hx2; have f0 := hx2.cell c0; have f1 := hx2.cell c1; have f2 := hx2.cell c2; have f3 := hx2.cell c3; have f4 := hx2.cell c4; have f5 := hx2.cell c5; have f6 := hx2.cell c6; have f7 := hx2.cell c7; have lf := Nat.lt_of_lt_of_le lbr hx2.size; clear hx2 c0 c1 c2 c3 c4 c5 c6 c7 lbr))
        go_roundw
        case rel => exact ⟨k + 1, by omega, by go_num, HE6.out, (fun h => by rw [HM.out] at h; simp at h), by rw [HM.out]; exact HO6.out⟩
        case measure => simp [intOf]; omega
    · obtain rfl : k = bs.length := by omega
      rw [List.take_length] at hO hz
      have hRr : ∀ u ∈ bs.filter rightU, rightU u = true := fun u hu => (List.mem_filter.1 hu).2
      have hRf : ∀ u ∈ bs.filter rightU, u.p.size ≤ 1000 ∧ okV u.item := fun u hu => ⟨by have := fine_size (HF0.out u (List.mem_filter.1 hu).1); omega, (HF0.out u (List.mem_filter.1 hu).1).2⟩
      have hRl : (bs.filter rightU).length ≤ 25 := Nat.le_trans (List.length_filter_le _ _) hbl
      have hrow := RowAt.of_row upd_coded hO hz
      have HXr := hid (HX0.out.trans hE)
      clear hE hz hO HO HZ HE HF0 g3 hbl hk g1 g2 hlt
      generalize bs.filter rightU = R at hRr hRf hRl hrow
      have hal := alive_len R
      have HLv := hid (fleavesP_c wr _ R hrow.1 (by omega) hRf (by omega))
      have HRow := hid hrow.1
      obtain ⟨A1, c1', rfl, k1, k2, k3⟩ := sl_get hrow.1
      have HRr := hid hRr
      clear hrow hRr hRf hal
      go_wp2_with (go_at_call 6; refine (HLv.out).mono ?_; rintro e w3 ⟨v3, rfl, ⟨L, hp, hL⟩, hx⟩; have HX3 := hid hx; have HP := hid hp; obtain ⟨A3, c3', rfl, m1, m2, m3⟩ := sl_get hL.1; clear hL hx hp HLv)
      have hL25 : L.length ≤ 25 := by rw [HP.out.length_eq, List.length_map]; have := alive_len R; omega
      have HB := fun (W : World) (hW : Ext wr W) it => hid (rbestZ_c W _ R it (HRow.out.ext hW))
      have HT := fun (W : World) (hW : Ext wr W) (hn : ¬ Once R) => hid (twice_yes (HRow.out.ext hW) hn)
      have HC : Hid (∀ i (h : i < R.length), bestB R i = true → cntU R[i] L = 1) := fun i h hb => cntU_one HP.out (bestB_alive h hb)
      have HAll : Hid (L.length = liveN R R.length) := by unfold Hid; rw [HP.out.length_eq, List.length_map, liveN_all]
      have HNo : Hid (∀ i k (hi : i < L.length) (hk : k < i), L[i].name = (L[k]'(Nat.lt_trans hk hi)).name → ¬ Once R) := fun i k hi hk hn => same_no HRr.out HP.out hi hk hn
      have HLiv := fun k => hid (liveN_step R k)
      have HBz := fun k (h : k < R.length) => hid (bestB_z h)
      have HW3 := hid (HXr.out.trans HX3.out)
      unfold maxLen at k2 m2
      clear HRow HP HRr
      go_loopw [6, 7] (fun lv i wr2 => ∃ k : Nat, k ≤ R.length ∧ i = .int .i64 k ∧ lv = .int .i64 (liveN R k) ∧ Hid (Ext w3 wr2)) (fun _ i _ => R.length - (intOf i).toNat)
      case atStart => exact ⟨0, by omega, rfl, rfl, Ext.refl _⟩
      case round =>
        obtain ⟨k, hk, rfl, rfl, hE⟩ := hrel
        have HEw := hid (HX3.out.trans hE.out)
        by_cases hlt : k < R.length
        · obtain ⟨b, o, rfl, lb, hcell⟩ := k3 (by omega)
          have c0 := HEw.out.cell (hcell k hlt 0 _ rfl)
          have c1 := HEw.out.cell (hcell k hlt 1 _ rfl)
          have c5 := HEw.out.cell (hcell k hlt 5 _ rfl)
          have c6 := HEw.out.cell (hcell k hlt 6 _ rfl)
          have c7 := HEw.out.cell (hcell k hlt 7 _ rfl)
          rw [Nat.add_zero] at c0
          have lbr := Nat.lt_of_lt_of_le lb HEw.out.size
          have HBc := hid (HB _ HEw.out R[k].item).out
          have HBq := (HBz k hlt).out
          have HS := HLiv k
          have hlv := liveN_le R k
          have HC1 := hid (HC.out k hlt)
          unfold Ver.val at HBc
          clear hcell k3 HB HT HC HNo HLiv HBz HAll lb hk
          generalize R[k] = x at c0 c1 c5 c6 c7 HBc HBq HC1
          generalize bZ R x.item = z at HBc HBq
          cases dz : (z == (k : Int)) with
          | false =>
            have hb : bestB R k = false := by rw [HBq, decide_eq_false (by intro e; rw [e] at dz; simp at dz)]; rfl
            rw [hb, if_neg Bool.false_ne_true] at HS
            clear HBq HC1 hb
            go_wp2_with (go_at_call 7; refine (HBc.out).mono ?_; rintro e w4 ⟨rfl, hx⟩; have X4 := hid (hE.out.trans hx); clear hx)
            go_roundw
            case rel => exact ⟨k + 1, by omega, by go_num, by rw [HS.out]; rfl, X4.out⟩
            case measure => simp [intOf]; omega
          | true =>
            have ez : z = (k : Int) := by simpa using dz
            cases hd : x.dead with
            | true =>
              have hb : bestB R k = false := by rw [HBq, hd]; simp
              rw [hd] at c7
              rw [hb, if_neg Bool.false_ne_true] at HS
              clear HBq HC1 hb ez hd
              go_wp2_with (go_at_call 7; refine (HBc.out).mono ?_; rintro e w4 ⟨rfl, hx⟩; have X4 := hid (hE.out.trans hx); have f7 := hx.cell c7; have lf := Nat.lt_of_lt_of_le lbr hx.size; clear hx c7 lbr)
              go_roundw
              case rel => exact ⟨k + 1, by omega, by go_num, by rw [HS.out]; rfl, X4.out⟩
              case measure => simp [intOf]; omega
            | false =>
              have hb : bestB R k = true := by rw [HBq, hd, ez]; simp
              rw [hd] at c7
              rw [hb, if_pos rfl] at HS
              have HOne := hid (HC1.out hb)
              clear HBq HC1 hb ez hd
              go_wp2_with (go_at_call 7; refine (HBc.out).mono ?_; rintro e w4 ⟨rfl, hx⟩; have X4 := hid (hE.out.trans hx); have f0 := hx.cell c0; have f1 := hx.cell c1; have f5 := hx.cell c5; have f6 := hx.cell c6; have f7 := hx.cell c7; have lf := Nat.lt_of_lt_of_le lbr hx.size; clear hx c0 c1 c5 c6 c7 lbr)
              go_loopw [8, 9] (fun nv jv wr3 => ∃ j : Nat, j ≤ L.length ∧ jv = .int .i64 j ∧ nv = .int .i64 (cntU x (L.take j)) ∧ Hid (Ext w4 wr3)) (fun _ jv _ => L.length - (intOf jv).toNat)
              case atStart => exact ⟨0, by omega, rfl, rfl, Ext.refl _⟩
              case round =>
                obtain ⟨j, hj, rfl, rfl, hEj⟩ := hrel
                by_cases hjl : j < L.length
                · obtain ⟨b3, o3, rfl, lb3, hcell3⟩ := m3 (by omega)
                  have HXj := hid (X4.out.trans hEj.out)
                  have g0 := HXj.out.cell (hcell3 j hjl 1 _ rfl)
                  have g1 := HXj.out.cell (hcell3 j hjl 2 _ rfl)
                  have g2 := HXj.out.cell (hcell3 j hjl 3 _ rfl)
                  have g3 := HXj.out.cell (hcell3 j hjl 4 _ rfl)
                  have lgj := Nat.lt_of_lt_of_le lb3 HXj.out.size
                  have y0 := hEj.out.cell f0
                  have y1 := hEj.out.cell f1
                  have y5 := hEj.out.cell f5
                  have y6 := hEj.out.cell f6
                  have ly := Nat.lt_of_lt_of_le lf hEj.out.size
                  have HCt := hid (cntU_take (u := x) hjl)
                  have hcl := cntU_le x L j
                  have hob : ofB x L[j] = (decide (L[j].item = x.item) && (decide (L[j].path = x.p) && decide (L[j].d = x.d))) := rfl
                  clear hcell3 m3 lb3 HOne f0 f1 f5 f6 f7 lf
                  generalize cntU x (L.take j) = cn at HCt hcl
                  generalize L[j] = y at g0 g1 g2 g3 HCt hob
                  by_cases e1 : y.item = x.item
                  · have h1 := eq2_true e1
                    cases d2 : decide (y.path = x.p) with
                    | false =>
                      have t2 := (beq_toL y.path x.p).trans d2
                      rw [hob, d2, Bool.false_and, Bool.and_false, if_neg Bool.false_ne_true] at HCt
                      clear hob e1
                      go_wp2_with fail
                      go_quiet (fail)
                      go_wp2_with fail
                      go_roundw
                      case rel => exact ⟨j + 1, by omega, by go_num, by rw [HCt.out]; rfl, (hEj.out.drewN' _)⟩
                      case measure => simp [intOf]; omega
                    | true =>
                      have t2 := (beq_toL y.path x.p).trans d2
                      cases d3 : decide (y.d = x.d) with
                      | false =>
                        have t3 := (beq_toL y.d x.d).trans d3
                        rw [hob, d3, Bool.and_false, Bool.and_false, if_neg Bool.false_ne_true] at HCt
                        clear hob e1
                        go_wp2_with fail
                        go_quiet (fail)
                        go_wp2_with fail
                        go_roundw
                        case rel => exact ⟨j + 1, by omega, by go_num, by rw [HCt.out]; rfl, (hEj.out.drewN' _)⟩
                        case measure => simp [intOf]; omega
                      | true =>
                        have t3 := (beq_toL y.d x.d).trans d3
                        rw [hob, d2, d3, decide_eq_true e1, Bool.and_true, Bool.and_true, if_pos rfl] at HCt
                        clear hob e1
                        go_wp2_with fail
                        go_quiet (fail)
                        go_wp2_with fail
                        go_roundw
                        case rel => exact ⟨j + 1, by omega, by go_num, by rw [HCt.out]; go_num, (hEj.out.drewN' _)⟩
                        case measure => simp [intOf]; omega
                  · have h1 := eq2_false e1
                    rw [hob, decide_eq_false e1, Bool.false_and, if_neg Bool.false_ne_true] at HCt
                    clear hob e1
                    go_wp2_with fail
                    go_quiet (fail)
                    go_wp2_with fail
                    go_roundw
                    case rel => exact ⟨j + 1, by omega, by go_num, by rw [HCt.out]; rfl, (hEj.out.drewN' _)⟩
                    case measure => simp [intOf]; omega
                · obtain rfl : j = L.length := by omega
                  rw [List.take_length, HOne.out]
                  have HX4 := hid (X4.out.trans hEj.out)
                  clear HOne hEj X4 m3 f0 f1 f5 f6 f7
                  go_wp2_with fail
                  go_roundw
                  case rel => exact ⟨k + 1, by omega, by go_num, by rw [HS.out]; go_num, HX4.out⟩
                  case measure => simp [intOf]; omega
        · obtain rfl : k = R.length := by omega
          have HWr := hid (HEw.out)
          have HXw := hid (HXr.out.trans HEw.out)
          have hlv := liveN_le R R.length
          have HA0 := awake20_c
          have HT2 := fun (W : World) (hW : Ext wr W) (hn : ¬ Once R) => hid (HT W (HEw.out.trans hW) hn).out
          have HE0 := hid hE.out
          clear HB HC HLiv HBz HT k3 hE
          go_wp2_with fail
          go_loopw [10, 11] (fun sv iv wr4 => ∃ (n : Nat) (i : Nat), sv = .int .i64 n ∧ iv = .int .i64 i ∧ 1 ≤ i ∧ (i ≤ L.length ∨ i = 1) ∧ n ≤ i ∧ Hid (Ext wr wr4) ∧ (0 < n → ¬ Once R)) (fun _ iv _ => L.length - (intOf iv).toNat)
          case atStart => exact ⟨0, 1, rfl, rfl, by omega, .inr rfl, by omega, Ext.refl _, fun h => absurd h (by omega)⟩
          case round =>
            obtain ⟨n, i, rfl, rfl, hi1, hiL, hni, hEi, hno⟩ := hrel
            obtain ⟨j, rfl⟩ : ∃ j, i = j + 1 := ⟨i - 1, by omega⟩
            by_cases hlt2 : j + 1 < L.length
            · obtain ⟨b3, o3, rfl, lb3, hcell3⟩ := m3 (by omega)
              have HXi := hid (HE0.out.trans hEi.out)
              have g0 := HXi.out.cell (hcell3 (j + 1) hlt2 0 _ rfl)
              have g1 := HXi.out.cell (hcell3 j (by omega) 0 _ rfl)
              rw [Nat.add_zero] at g0 g1
              have lgi := Nat.lt_of_lt_of_le lb3 HXi.out.size
              have HNo2 := hid (HNo.out (j + 1) j hlt2 (by omega))
              have HNn := hid hno
              clear hcell3 m3 lb3 HNo hno
              have HTe := beq_toL L[j + 1].name (L[j]'(by omega)).name
              generalize L[j + 1] = y at g0 HNo2 HTe
              generalize L[j]'(by omega) = z at g1 HNo2 HTe
              cases he : decide (y.name = z.name) with
              | false =>
                rw [he] at HTe
                clear HNo2 he
                go_wp2_with fail
                go_quiet (fail)
                go_wp2_with fail
                go_roundw
                case rel => exact ⟨n, j + 1 + 1, rfl, by go_num, by omega, by omega, by omega, (hEi.out.drewN' _), HNn.out⟩
                case measure => simp [intOf]; omega
              | true =>
                rw [he] at HTe
                have HYes := hid (HNo2.out (of_decide_eq_true he))
                clear HNo2 he
                go_wp2_with fail
                go_quiet (fail)
                go_wp2_with fail
                go_roundw
                case rel => exact ⟨n + 1, j + 1 + 1, by go_num, by go_num, by omega, by omega, by omega, (hEi.out.drewN' _), fun _ => HYes.out⟩
                case measure => simp [intOf]; omega
            · have HNn := hid hno
              have HXe := hid (HXw.out.trans hEi.out)
              have HTw := fun (h : 0 < n) W (hW : Ext wr W) => (HT2 W (hEi.out.trans hW) (hno h))
              have HLl := HAll
              clear HNo hno m3 hi1 HT2
              rw [← HLl.out]
              clear HAll HLl hlv
              cases hn0 : ((n : Int) == 0) with
              | true =>
                clear HTw
                go_wp2_with (go_at_call 8; refine (HA0 _).mono ?_; rintro e w5 ⟨rfl, hx⟩; have X5 := hid hx; clear hx)
                go_ret
                exact ⟨rfl, HXe.out.trans X5.out⟩
              | false =>
                have HTk := HTw (by have : (n : Int) ≠ 0 := by simpa using hn0
                                    omega)
                clear HTw
                go_wp2_with (first
                  | (go_at_call 9; refine ((HTk _ X5.out).out).mono ?_; rintro e w6 ⟨rfl, hx⟩; have X6 := hid (X5.out.trans hx); clear hx)
                  | (go_at_call 8; refine (HA0 _).mono ?_; rintro e w5 ⟨rfl, hx⟩; have X5 := hid hx; clear hx))
                go_ret
                exact ⟨rfl, HXe.out.trans X6.out⟩
end Go.Proofs.Ytjbpdepeimgocaa
