/-
  update.View; the document's View.
-/
import Derived.Test.YtgkdiknmjgpgmaaDoorUpG
namespace Go.Proofs.YtgkdiknmjgpgmaaDoor
set_option linter.unusedSimpArgs false
set_option linter.unusedVariables false
open Go.RowKit Go.Sort

theorem bestV_some (u : UpdI) : bestV (some u) = .tuple #[.agg #[.int .i64 u.item.by_, .int .i64 u.item.n, .int .i64 u.st.v.by_, .int .i64 u.st.v.n, .int .i64 u.st.time, .string u.p, .string u.d, .bool u.dead], .bool true] := rfl
theorem itemsK_take {l : List UpdI} {k : Nat} (h : k < l.length) : itemsK (l.take (k + 1)) = insL Ver.lt l[k].item (itemsK (l.take k)) := by
  unfold itemsK
  rw [List.take_succ_eq_append_getElem h, List.map_append]
  exact setL_snoc _ _
set_option maxRecDepth 100000 in
set_option maxHeartbeats 4000000 in
theorem uview_c (w : World) (v vf : Value) (l : List UpdI) (f : List ClauseI) (h : Sl w 8 v (l.map UpdI.cells)) (hl : l.length ≤ 1000) (hp : ∀ u ∈ l, u.p.size ≤ 1000) (hf : Sl w 3 vf (f.map ClauseI.cells)) (hfl : LightF f) : Calls Tryd.prog 20 #[v, vf] w (RetQ (RowAt UpdI.cells 8 (viewK (matchB f) l)) w) := by
  have HS0 := hid h
  have HM := fun W (hW : Ext w W) (u : UpdI) (hu : u.p.size ≤ 1000) => hid (umatch_c W vf f u (hf.ext hW) hu hfl)
  have HPs := hid hp
  obtain ⟨FA, fc, rfl, _⟩ := sl_get hf
  clear hf hfl hp
  obtain ⟨A, c, rfl, h1, h2, h3⟩ := sl_get h
  unfold maxLen at h2
  clear h
  go_enter Tryd.func20, Tryd.ntmps20
  go_wp2_with fail
  go_loopw [5, 15] (fun v i wr => ∃ k : Nat, k ≤ l.length ∧ i = .int .i64 k ∧ Ext w wr ∧ (k = 0 → v = .slice none 0 0) ∧ wr.ownsRow w.heap.size 24 2 v ((l.take k).map (·.item)).length (((l.take k).map (·.item)).map Ver.cells).flatten) (fun _ i _ => l.length - (intOf i).toNat)
  case atStart => exact ⟨0, by omega, rfl, Ext.refl _, (fun _ => rfl), ownsRow_nil _ _ _ _⟩
  case round =>
    obtain ⟨k, hk, rfl, hE, hz, hO⟩ := hrel
    have HE := hid hE
    have HO := hid hO
    have HZ := hid hz
    by_cases hlt : k < l.length
    · obtain ⟨b', o, rfl, lb, hcell⟩ := h3 (by omega)
      have c0 := hE.cell (hcell k hlt 0 _ rfl)
      have c1 := hE.cell (hcell k hlt 1 _ rfl)
      have c2 := hE.cell (hcell k hlt 2 _ rfl)
      have c3 := hE.cell (hcell k hlt 3 _ rfl)
      have c4 := hE.cell (hcell k hlt 4 _ rfl)
      have c5 := hE.cell (hcell k hlt 5 _ rfl)
      have c6 := hE.cell (hcell k hlt 6 _ rfl)
      have c7 := hE.cell (hcell k hlt 7 _ rfl)
      rw [Nat.add_zero] at c0
      have lbr := Nat.lt_of_lt_of_le lb hE.size
      have HS : Hid ((l.take (k + 1)).map (·.item) = (l.take k).map (·.item) ++ [l[k].item]) := by unfold Hid; rw [List.take_succ_eq_append_getElem hlt, List.map_append]; rfl
      have hln : ((l.take k).map (·.item)).length ≤ 1000 := by rw [List.length_map, List.length_take]; omega
      clear hcell h3 hE hz hO
      generalize l[k] = x at c0 c1 c2 c3 c4 c5 c6 c7 HS
      generalize (l.take k).map (·.item) = acc at HO HS hln
      have hE1 := Ext.alloc wr (.cells #[.int .i64 x.item.by_, .int .i64 x.item.n, .int .i64 x.st.v.by_, .int .i64 x.st.v.n, .int .i64 x.st.time, .string x.p, .string x.d, .bool x.dead] 28)
      obtain ⟨v', w6, hrun6, ho6, hk6, _⟩ := app_one (P := Tryd.prog) ver_elem ver_coded (ownsRow_ext HO.out hE1) (Nat.le_trans HE.out.size hE1.size) x.item (by omega) (by omega)
      simp only [Ver.cells, World.size_alloc] at hrun6
      have HE6 := hid (hk6.toExt (HE.out.trans hE1) (fun q hq => (row_block HO.out q hq).1))
      have HO6 := hid ho6
      clear ho6 hk6 hE1
      go_wp2_with (at_builtin; refine wpList_app rfl (.tmp 19) (.tmp 22) _ _ rfl rfl rfl hrun6 ?_)
      go_roundw
      case rel => exact ⟨k + 1, by omega, by go_num, HE6.out, (fun h => by omega), by rw [HS.out]; exact HO6.out⟩
      case measure => simp [intOf]; omega
    · obtain rfl : k = l.length := by omega
      rw [List.take_length] at hO
      have hrow := RowAt.of_row ver_coded hO (fun h0 => hz (by rwa [List.length_map] at h0))
      have HV := hid (vsort_c wr _ _ hrow.1 (by rw [List.length_map]; omega))
      obtain ⟨its, hits⟩ : ∃ its, its = itemsK l := ⟨_, rfl⟩
      have HIts : Hid (∀ it ∈ its, ∃ u, bestK l it = some u) := fun it hit => bestK_some ((mem_itemsK l it).1 (by rwa [← hits]))
      have hle := itemsK_len l
      have HAll : Hid (viewK (matchB f) l = seenK (matchB f) l its) := by rw [hits]; rfl
      rw [← hits] at hle
      have hits' : setL Ver.lt (l.map (·.item)) = its := hits.symm
      rw [hits'] at HV
      have HEw := hid hE
      clear hE h3 hz hO hrow HO HZ HE hits hits'
      go_wp2_with (go_at_call 43; refine (HV.out).mono ?_; rintro e w2 ⟨v2, rfl, hv2, hx2⟩; have HX2 := hid (HEw.out.trans hx2); obtain ⟨A2, c2, rfl, p1, p2, p3⟩ := sl_get hv2.1; clear hv2 hx2 HV)
      unfold maxLen at p2
      go_loopw [8, 28] (fun v i WQ => ∃ (k : Nat) (ov : Value), ov = v ∧ k ≤ its.length ∧ i = .int .i64 k ∧ Ext w2 WQ ∧ ((seenK (matchB f) l (its.take k)).length = 0 → v = .slice none 0 0) ∧ WQ.ownsRow w2.heap.size 28 8 v (seenK (matchB f) l (its.take k)).length ((seenK (matchB f) l (its.take k)).map UpdI.cells).flatten) (fun _ i _ => its.length - (intOf i).toNat)
      case atStart => exact ⟨0, _, rfl, by omega, rfl, Ext.refl _, (fun _ => rfl), ownsRow_nil _ _ _ _⟩
      case round =>
        obtain ⟨k, v, rfl, hk, rfl, hE3, hz, hO⟩ := hrel
        have HE3 := hid hE3
        have HO := hid hO
        have HZ := hid hz
        by_cases hlt : k < its.length
        · obtain ⟨b', o, rfl, lb, hcell⟩ := p3 (by omega)
          have c0 := hE3.cell (hcell k hlt 0 _ rfl)
          have c1 := hE3.cell (hcell k hlt 1 _ rfl)
          rw [Nat.add_zero] at c0
          have lbr := Nat.lt_of_lt_of_le lb hE3.size
          obtain ⟨u, hu⟩ := HIts.out _ (List.getElem_mem hlt)
          have hpu := HPs.out u (bestK_mem l _ u hu).1
          have HB := fun W (hW : Ext wr W) => hid (ubest_c W _ l its[k] (HS0.out.ext (HX2.out.trans (hE3.trans hW))) (by omega))
          rw [hu, bestV_some] at HB
          have HM1 := fun W (hW : Ext wr W) => HM W (HX2.out.trans (hE3.trans hW)) u hpu
          have HY := fun hp => hid (seenK_yes (p := matchB f) hlt hu hp)
          have HN := fun hp => hid (seenK_no (p := matchB f) hlt hu hp)
          have hsl := seenK_len (matchB f) l (its.take k)
          rw [List.length_take] at hsl
          clear hE3 hcell p3 hz hO hu hpu HM
          generalize its[k] = it at c0 c1 HB
          generalize seenK (matchB f) l (its.take k) = acc at HO HZ HY HN hsl
          unfold Ver.val at HB
          unfold UpdI.val at HM1
          cases hd : matchB f u with
          | false =>
            have HS := HN hd
            rw [hd] at HM1
            clear HN HY hd
            go_wp2_with (first
              | (go_at_call 13; refine ((HM1 _ (HX4.out.alloc' _)).out).mono ?_; rintro e w5 ⟨rfl, hx5⟩; have HX5 := hid ((HX4.out.alloc' _).trans hx5); clear hx5 HM1)
              | (go_at_call 17; refine ((HB _ (Ext.alloc _ _)).out).mono ?_; rintro e w4 ⟨rfl, hx4⟩; have HX4 := hid ((Ext.alloc _ _).trans hx4); clear hx4 HB))
            go_roundw
            case rel => exact ⟨k + 1, _, rfl, by omega, by go_num, HE3.out.trans HX5.out, (by rw [HS.out]; exact HZ.out), by rw [HS.out]; exact ownsRow_ext HO.out HX5.out⟩
            case measure => simp [intOf]; omega
          | true =>
            have HS := HY hd
            rw [hd] at HM1
            clear HN HY hd
            go_wp2_with (first
              | (at_builtin; obtain ⟨v', w6, hrun6, ho6, hk6, _⟩ := app_one (P := Tryd.prog) upd_elem upd_coded (ownsRow_ext HO.out HX5.out) (Nat.le_trans HE3.out.size HX5.out.size) u (by omega) (by omega); simp only [UpdI.cells] at hrun6; have HE6 := hid (hk6.toExt (HE3.out.trans HX5.out) (fun q hq => (row_block HO.out q hq).1)); have HO6 := hid ho6; clear ho6 hk6; refine wpList_app rfl (.tmp 41) (.tmp 43) _ _ rfl rfl rfl hrun6 ?_)
              | (go_at_call 13; have hb4 := Blk.new w4 28 #[.int .i64 u.item.by_, .int .i64 u.item.n, .int .i64 u.st.v.by_, .int .i64 u.st.v.n, .int .i64 u.st.time, .string u.p, .string u.d, .bool u.dead]; refine ((HM1 _ (HX4.out.alloc' _)).out).mono ?_; rintro e w5 ⟨rfl, hx5⟩; have HX5 := hid ((HX4.out.alloc' _).trans hx5); have hb5 := hb4.ext hx5; have u0 := hb5.cell (i := 0) (v := .int .i64 u.item.by_) rfl; have u1 := hb5.cell (i := 1) (v := .int .i64 u.item.n) rfl; have u2 := hb5.cell (i := 2) (v := .int .i64 u.st.v.by_) rfl; have u3 := hb5.cell (i := 3) (v := .int .i64 u.st.v.n) rfl; have u4 := hb5.cell (i := 4) (v := .int .i64 u.st.time) rfl; have u5 := hb5.cell (i := 5) (v := .string u.p) rfl; have u6 := hb5.cell (i := 6) (v := .string u.d) rfl; have u7 := hb5.cell (i := 7) (v := .bool u.dead) rfl; have lu := hb5.lt; clear hx5 hb4 hb5 HM1)
              | (go_at_call 17; refine ((HB _ (Ext.alloc _ _)).out).mono ?_; rintro e w4 ⟨rfl, hx4⟩; have HX4 := hid ((Ext.alloc _ _).trans hx4); clear hx4 HB))
            go_roundw
            case rel => exact ⟨k + 1, _, rfl, by omega, by go_num, HE6.out, (fun h => by rw [HS.out] at h; simp at h), by rw [HS.out]; exact HO6.out⟩
            case measure => simp [intOf]; omega
        · obtain rfl : k = its.length := by omega
          rw [List.take_length] at hO hz
          have hrow := RowAt.of_row upd_coded hO hz
          have HR := hid hrow
          clear hE3 p3 hz hO hrow HO HZ
          go_wp2_with fail
          go_ret
          exact ⟨_, rfl, by rw [HAll.out]; exact HR.out, HX2.out.trans HE3.out⟩
set_option maxRecDepth 100000 in
set_option maxHeartbeats 4000000 in
theorem rview_c (w : World) (v vf : Value) (l : List UpdI) (f : List ClauseI) (h : Sl w 8 v (l.map UpdI.cells)) (hl : l.length ≤ 1000) (hp : ∀ u ∈ l, u.p.size ≤ 1000) (hf : Sl w 3 vf (f.map ClauseI.cells)) (hfl : LightF f) : Calls Tryd.prog 21 #[v, vf] w (RetQ (RowAt UpdI.cells 8 (viewK (matchB f) l)) w) := by
  have HB := fun W (hW : Ext w W) it => hid (rbest_c W v l it (h.ext hW))
  have HM := fun W (hW : Ext w W) (u : UpdI) (hu : u.p.size ≤ 1000) => hid (rmatch16_c W vf f u (hf.ext hW) hu hfl)
  have HPs := hid hp
  obtain ⟨FA, fc, rfl, _⟩ := sl_get hf
  clear hf hfl hp
  obtain ⟨A, c, rfl, h1, h2, h3⟩ := sl_get h
  have HC := hid h3
  unfold maxLen at h2
  clear h
  go_enter Tryd.func21, Tryd.ntmps21
  go_wp2_with fail
  go_loopw [5, 6] (fun v i wr => ∃ (k : Nat) (ov : Value), k ≤ l.length ∧ i = .int .i64 k ∧ ov = v ∧ Ext w wr ∧ RowAt Ver.cells 2 (itemsK (l.take k)) ov wr) (fun _ i _ => l.length - (intOf i).toNat)
  case atStart => exact ⟨0, _, by omega, rfl, rfl, Ext.refl _, RowAt.nil _⟩
  case round =>
    obtain ⟨k, v, hk, rfl, rfl, hE, hR⟩ := hrel
    have HE := hid hE
    by_cases hlt : k < l.length
    · obtain ⟨b', o, rfl, lb, hcell⟩ := h3 (by omega)
      have c0 := hE.cell (hcell k hlt 0 _ rfl)
      have c1 := hE.cell (hcell k hlt 1 _ rfl)
      rw [Nat.add_zero] at c0
      have lbr := Nat.lt_of_lt_of_le lb hE.size
      have hle := itemsK_len (l.take k)
      rw [List.length_take] at hle
      have HP := hid (rput_c wr v _ l[k].item hR (by omega))
      rw [← itemsK_take hlt] at HP
      clear hE hcell h3 hR hle
      generalize l[k] = z at c0 c1 HP
      unfold Ver.val at HP
      go_wp2_with (go_at_call 44; refine (HP.out).mono ?_; rintro e w3 ⟨v3, rfl, hv3, hx3⟩; have HV3 := hid hv3; have HX3 := hid hx3; clear hv3 hx3)
      exact ⟨⟨k + 1, _, by omega, by go_num, rfl, HE.out.trans HX3.out, HV3.out⟩, by simp [intOf]; omega⟩
    · obtain rfl : k = l.length := by omega
      rw [List.take_length] at hR
      have HIn : Hid (∀ it ∈ itemsK l, ∃ u ∈ l, u.item = it) := fun it hit => (mem_itemsK l it).1 hit
      have hle := itemsK_len l
      have HAll : Hid (viewK (matchB f) l = seenK (matchB f) l (itemsK l)) := rfl
      generalize itemsK l = its at hR HIn hle HAll
      obtain ⟨A2, c2, rfl, p1, p2, p3⟩ := sl_get hR.1
      unfold maxLen at p2
      clear hE h3 hR
      go_wp2_with fail
      go_loopw [7, 8] (fun ou i WI => ∃ (k : Nat) (ov : Value), ov = ou ∧ k ≤ its.length ∧ i = .int .i64 k ∧ Ext wr WI ∧ ((seenK (matchB f) l (its.take k)).length = 0 → ou = .slice none 0 0) ∧ WI.ownsRow wr.heap.size 28 8 ou (seenK (matchB f) l (its.take k)).length ((seenK (matchB f) l (its.take k)).map UpdI.cells).flatten) (fun _ i _ => its.length - (intOf i).toNat)
      case atStart => exact ⟨0, _, rfl, by omega, rfl, Ext.refl _, (fun _ => rfl), ownsRow_nil _ _ _ _⟩
      case round =>
        obtain ⟨k, ou, rfl, hk, rfl, hE, hz, hO⟩ := hrel
        have HE2 := hid (HE.out.trans hE)
        have HE3 := hid hE
        have HO := hid hO
        have HZ := hid hz
        by_cases hlt : k < its.length
        · obtain ⟨b', o, rfl, lb, hcell⟩ := p3 (by omega)
          have c0 := hE.cell (hcell k hlt 0 _ rfl)
          have c1 := hE.cell (hcell k hlt 1 _ rfl)
          rw [Nat.add_zero] at c0
          have lbr := Nat.lt_of_lt_of_le lb hE.size
          have HB1 := HB wr HE2.out its[k]
          have HIn1 := hid (HIn.out its[k] (List.getElem_mem hlt))
          have HY := fun (u : UpdI) (hb : bestK l its[k] = some u) (hp : matchB f u = true) => hid (seenK_yes (p := matchB f) (u := u) hlt hb hp)
          have HN := fun (u : UpdI) (hb : bestK l its[k] = some u) (hp : matchB f u = false) => hid (seenK_no (p := matchB f) (u := u) hlt hb hp)
          have hsl := seenK_len (matchB f) l (its.take k)
          rw [List.length_take] at hsl
          clear hcell p3 hE HB HIn hz hO
          generalize its[k] = it at c0 c1 HB1 HIn1 HY HN
          generalize seenK (matchB f) l (its.take k) = acc at HO HZ HY HN hsl
          unfold Ver.val at HB1
          go_wp2_with (go_at_call 18; refine (HB1.out).mono ?_; rintro e w3 ⟨v3, rfl, ⟨z, rfl, hz⟩, hx3⟩; obtain ⟨m, x, hm, rfl, hbx⟩ := bestAt_in hz HIn1.out; obtain ⟨hml, hmx⟩ := List.getElem?_eq_some_iff.1 hm; obtain ⟨ba, oa, rfl, lba, hca⟩ := HC.out (by omega); have hw3 := HE2.out.trans hx3; have e0 := hw3.cell (hca m hml 0 _ rfl); have e1 := hw3.cell (hca m hml 1 _ rfl); have e2 := hw3.cell (hca m hml 2 _ rfl); have e3 := hw3.cell (hca m hml 3 _ rfl); have e4 := hw3.cell (hca m hml 4 _ rfl); have e5 := hw3.cell (hca m hml 5 _ rfl); have e6 := hw3.cell (hca m hml 6 _ rfl); have e7 := hw3.cell (hca m hml 7 _ rfl); rw [hmx] at e0 e1 e2 e3 e4 e5 e6 e7; rw [Nat.add_zero] at e0; have lba3 := Nat.lt_of_lt_of_le lba hw3.size; have HX3 := hid hx3; have hpu := HPs.out x (by rw [← hmx]; exact List.getElem_mem hml); have HBx := hid hbx; clear hz hm hbx hmx hca hw3 hx3 lba HC HIn1)
          have HM1 := fun W (hW : Ext w3 W) => HM W (HE2.out.trans (HX3.out.trans hW)) x hpu
          unfold UpdI.val at HM1
          have hb4 := Blk.new w3 28 #[.int .i64 x.item.by_, .int .i64 x.item.n, .int .i64 x.st.v.by_, .int .i64 x.st.v.n, .int .i64 x.st.time, .string x.p, .string x.d, .bool x.dead]
          have HB4 := hid hb4
          clear HM hpu hb4
          cases hd : matchB f x with
          | false =>
            have HS := HN x HBx.out hd
            rw [hd] at HM1
            clear HN HY hd
            go_wp2_with (go_at_call 12; refine ((HM1 _ (Ext.alloc _ _)).out).mono ?_; rintro e w4 ⟨rfl, hx4⟩; have HX4 := hid (HX3.out.trans ((Ext.alloc _ _).trans hx4)); clear hx4)
            go_roundw
            case rel => exact ⟨k + 1, _, rfl, by omega, by go_num, HE3.out.trans HX4.out, (by rw [HS.out]; exact HZ.out), by rw [HS.out]; exact ownsRow_ext HO.out HX4.out⟩
            case measure => simp [intOf]; omega
          | true =>
            have HS := HY x HBx.out hd
            rw [hd] at HM1
            clear HN HY hd
            go_wp2_with (first
              | (at_builtin; obtain ⟨v', w6, hrun6, ho6, hk6, _⟩ := app_one (P := Tryd.prog) upd_elem upd_coded (ownsRow_ext HO.out HX4.out) (Nat.le_trans HE3.out.size HX4.out.size) x (by omega) (by omega); simp only [UpdI.cells] at hrun6; have HE6 := hid (hk6.toExt (HE3.out.trans HX4.out) (fun q hq => (row_block HO.out q hq).1)); have HO6 := hid ho6; clear ho6 hk6; refine wpList_app rfl (.tmp 41) (.tmp 43) _ _ rfl rfl rfl hrun6 ?_)
              | (go_at_call 12; refine ((HM1 _ (Ext.alloc _ _)).out).mono ?_; rintro e w4 ⟨rfl, hx4⟩; have HX4 := hid (HX3.out.trans ((Ext.alloc _ _).trans hx4)); have hb5 := HB4.out.ext hx4; have u0 := hb5.cell (i := 0) (v := .int .i64 x.item.by_) rfl; have u1 := hb5.cell (i := 1) (v := .int .i64 x.item.n) rfl; have u2 := hb5.cell (i := 2) (v := .int .i64 x.st.v.by_) rfl; have u3 := hb5.cell (i := 3) (v := .int .i64 x.st.v.n) rfl; have u4 := hb5.cell (i := 4) (v := .int .i64 x.st.time) rfl; have u5 := hb5.cell (i := 5) (v := .string x.p) rfl; have u6 := hb5.cell (i := 6) (v := .string x.d) rfl; have u7 := hb5.cell (i := 7) (v := .bool x.dead) rfl; have lu := hb5.lt; clear hx4 hb5))
            go_roundw
            case rel => exact ⟨k + 1, _, rfl, by omega, by go_num, HE6.out, (fun h => by rw [HS.out] at h; simp at h), by rw [HS.out]; exact HO6.out⟩
            case measure => simp [intOf]; omega
        · obtain rfl : k = its.length := by omega
          rw [List.take_length] at hO hz
          have hrow := RowAt.of_row upd_coded hO hz
          have HR := hid hrow
          clear hE p3 hz hO hrow HO HZ
          go_wp2_with fail
          go_ret
          exact ⟨_, rfl, by rw [HAll.out]; exact HR.out, HE2.out⟩
end Go.Proofs.YtgkdiknmjgpgmaaDoor
