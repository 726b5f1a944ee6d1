/-
  The document's Leaves: some leaves, whose texts are not too long.
-/
import Derived.Test.YtgkdiknmjgpgmaaFlF
namespace Go.Proofs.Ytgkdiknmjgpgmaa
set_option linter.unusedSimpArgs false
set_option linter.unusedVariables false
open Go.RowKit Go.Sort

/-- Fine: an update that may be asked for. -/
def Fine (u : UpdI) : Prop := lightU u = true ∧ okV u.item
def Slight (x : LeafI) : Prop := x.name.size ≤ 300 ∧ x.path.size ≤ 300 ∧ x.d.size ≤ 400
set_option maxRecDepth 100000 in
set_option maxHeartbeats 8000000 in
theorem leaves_e (w : World) (v : Value) (l : List UpdI) (h : Sl w 8 v (l.map UpdI.cells)) (hl : l.length ≤ 100) (hf : ∀ u ∈ l, Fine u) : Calls Try.prog 18 #[v] w (RetQ (fun v' w' => ∃ L : List LeafI, RowAt LeafI.cells 5 L v' w' ∧ L.length ≤ 100 ∧ ∀ x ∈ L, Slight x) w) := by
  have HB := fun W (hW : Ext w W) it => hid (rbest_c W v l it (h.ext hW))
  have HV := fun W (hW : Ext w W) => hid (view0_c W v l (some ⟨w.heap.size, 0, none⟩) 0 (h.ext hW) (by omega))
  obtain ⟨A, c, rfl, h1, h2, h3⟩ := sl_get h
  have HC := hid h3
  have HF := hid hf
  unfold maxLen at h2
  clear h hf
  go_enter Try.func18, Try.ntmps18
  go_wp2_with (go_at_call 48; refine ((HV _ (Ext.alloc _ _)).out).mono ?_; rintro e w0 ⟨rfl, hx⟩; have HX0 := hid ((Ext.alloc _ _).trans hx); clear hx)
  clear HV
  go_loopw [4, 5] (fun v i wr => ∃ (k : Nat) (ov : Value), k ≤ l.length ∧ i = .int .i64 k ∧ ov = v ∧ Ext w wr ∧ RowAt Ver.cells 2 (itemsK (l.take k)) ov wr) (fun _ i _ => l.length - (intOf i).toNat)
  case atStart => exact ⟨0, _, by omega, rfl, rfl, HX0.out, RowAt.nil _⟩
  case round =>
    obtain ⟨k, v, hk, rfl, rfl, hE, hR⟩ := hrel
    have HE := hid hE
    clear HX0
    by_cases hlt : k < l.length
    · obtain ⟨b', o, rfl, lb, hcell⟩ := h3 (by omega)
      have c0 := hE.cell (hcell k hlt 0 _ rfl)
      have c1 := hE.cell (hcell k hlt 1 _ rfl)
      rw [Nat.add_zero] at c0
      have lbr := Nat.lt_of_lt_of_le lb hE.size
      have hle := itemsK_len (l.take k)
      rw [List.length_take] at hle
      have HP := hid (rput_c wr v _ l[k].item hR (by omega))
      rw [← itemsK_take hlt] at HP
      clear hE hcell h3 hR hle
      generalize l[k] = z at c0 c1 HP
      unfold Ver.val at HP
      go_wp2_with (go_at_call 31; refine (HP.out).mono ?_; rintro e w3 ⟨v3, rfl, hv3, hx3⟩; have HV3 := hid hv3; have HX3 := hid hx3; clear hv3 hx3)
      exact ⟨⟨k + 1, _, by omega, by go_num, rfl, HE.out.trans HX3.out, HV3.out⟩, by simp [intOf]; omega⟩
    · obtain rfl : k = l.length := by omega
      rw [List.take_length] at hR
      have HIn : Hid (∀ it ∈ itemsK l, ∃ u ∈ l, u.item = it) := fun it hit => (mem_itemsK l it).1 hit
      have hle := itemsK_len l
      generalize itemsK l = its at hR HIn hle
      obtain ⟨A2, c2, rfl, p1, p2, p3⟩ := sl_get hR.1
      unfold maxLen at p2
      clear hE h3 hR
      go_wp2_with fail
      go_loopw [3, 6] (fun ou i WI => ∃ (k : Nat) (bs : List UpdI), k ≤ its.length ∧ i = .int .i64 k ∧ Ext wr WI ∧ bs.length ≤ k ∧ (∀ u ∈ bs, Fine u) ∧ (bs.length = 0 → ou = .slice none 0 0) ∧ WI.ownsRow wr.heap.size 30 8 ou bs.length (bs.map UpdI.cells).flatten) (fun _ i _ => its.length - (intOf i).toNat)
      case atStart => exact ⟨0, [], by omega, rfl, Ext.refl _, by simp, by simp, (fun _ => rfl), ownsRow_nil _ _ _ _⟩
      case round =>
        obtain ⟨k, bs, hk, rfl, hE, hbl, hbf, hz, hO⟩ := hrel
        have HE2 := hid (HE.out.trans hE)
        have HE3 := hid hE
        have HO := hid hO
        have HZ := hid hz
        have HBf := hid hbf
        by_cases hlt : k < its.length
        · obtain ⟨b', o, rfl, lb, hcell⟩ := p3 (by omega)
          have c0 := hE.cell (hcell k hlt 0 _ rfl)
          have c1 := hE.cell (hcell k hlt 1 _ rfl)
          rw [Nat.add_zero] at c0
          have lbr := Nat.lt_of_lt_of_le lb hE.size
          have HB1 := HB wr HE2.out its[k]
          have HIn1 := hid (HIn.out its[k] (List.getElem_mem hlt))
          clear hcell p3 hE HB HIn hz hO hbf
          generalize its[k] = it at c0 c1 HB1 HIn1
          unfold Ver.val at HB1
          go_wp2_with (first
            | (at_builtin; obtain ⟨v', w6, hrun6, ho6, hk6, _⟩ := app_one (P := Try.prog) upd_elem upd_coded (ownsRow_ext HO.out (HX3.out.alloc' (.cells #[.int .i64 x.item.by_, .int .i64 x.item.n, .int .i64 x.st.v.by_, .int .i64 x.st.v.n, .int .i64 x.st.time, .string x.p, .string x.d, .bool false] 30))) (Nat.le_trans HE3.out.size (HX3.out.alloc' _).size) x (by omega) (by omega); simp only [UpdI.cells, World.size_alloc, hdead] at hrun6; have HE6 := hid (hk6.toExt (HE3.out.trans (HX3.out.alloc' _)) (fun q hq => (row_block HO.out q hq).1)); have HO6 := hid ho6; have HB6 : Hid (∀ u ∈ bs ++ [x], Fine u) := (fun u hu => (List.mem_append.1 hu).elim (HBf.out u) (fun hu => by rw [List.mem_singleton.1 hu]; exact HFx.out)); clear ho6 hk6 hdead; refine wpList_app rfl (.tmp 47) (.tmp 49) _ _ rfl rfl rfl hrun6 ?_)
            | (go_at_call 13; refine (HB1.out).mono ?_; rintro e w3 ⟨v3, rfl, ⟨z, rfl, hz⟩, hx3⟩; obtain ⟨m, x, hm, rfl, hbx⟩ := bestAt_in hz HIn1.out; obtain ⟨hml, hmx⟩ := List.getElem?_eq_some_iff.1 hm; obtain ⟨ba, oa, rfl, lba, hca⟩ := HC.out (by omega); have hw3 := HE2.out.trans hx3; have e0 := hw3.cell (hca m hml 0 _ rfl); have e1 := hw3.cell (hca m hml 1 _ rfl); have e2 := hw3.cell (hca m hml 2 _ rfl); have e3 := hw3.cell (hca m hml 3 _ rfl); have e4 := hw3.cell (hca m hml 4 _ rfl); have e5 := hw3.cell (hca m hml 5 _ rfl); have e6 := hw3.cell (hca m hml 6 _ rfl); have e7 := hw3.cell (hca m hml 7 _ rfl); rw [hmx] at e0 e1 e2 e3 e4 e5 e6 e7; rw [Nat.add_zero] at e0; have lba3 := Nat.lt_of_lt_of_le lba hw3.size; have HX3 := hid hx3; have HFx := hid (HF.out x (by rw [← hmx]; exact List.getElem_mem hml)); cases hdead : x.dead; all_goals (rw [hdead] at e7); all_goals (clear hz hm hbx hmx hca hw3 hx3 lba HC HIn1)))
          all_goals first
            | exact ⟨⟨k + 1, bs ++ [x], by omega, by go_num, HE6.out, by simp; omega, HB6.out, (fun h => by simp at h), HO6.out⟩, by simp [intOf]; omega⟩
            | exact ⟨⟨k + 1, bs, by omega, by go_num, HE3.out.trans (HX3.out.alloc' _), by omega, HBf.out, HZ.out, ownsRow_ext HO.out (HX3.out.alloc' _)⟩, by simp [intOf]; omega⟩
        · obtain rfl : k = its.length := by omega
          have hrow := RowAt.of_row upd_coded hO hz
          obtain ⟨A3, c3, rfl, q1, q2, q3⟩ := sl_get hrow.1
          unfold maxLen at q2
          clear hE p3 hz hO HO HZ HB HIn hrow hbf
          have hbl2 : bs.length ≤ 100 := by omega
          go_wp2_with fail
          go_loopw [8, 9] (fun ou i WI => ∃ (k : Nat) (ov : Value) (L : List LeafI), k ≤ bs.length ∧ i = .int .i64 k ∧ ov = ou ∧ Ext wr WI ∧ RowAt LeafI.cells 5 L ov WI ∧ L.length ≤ k ∧ ∀ x ∈ L, Slight x) (fun _ i _ => bs.length - (intOf i).toNat)
          case atStart => exact ⟨0, _, [], by omega, rfl, rfl, Ext.refl _, RowAt.nil _, by simp, by simp⟩
          case round =>
            obtain ⟨k, ov, L, hk, rfl, rfl, hE, hR, hLl, hLs⟩ := hrel
            have HE4 := hid hE
            have HR := hid hR
            have HLs := hid hLs
            by_cases hlt : k < bs.length
            · obtain ⟨b', o, rfl, lb, hcell⟩ := q3 (by omega)
              have c0 := hE.cell (hcell k hlt 0 _ rfl)
              have c1 := hE.cell (hcell k hlt 1 _ rfl)
              have c2_ := hE.cell (hcell k hlt 2 _ rfl)
              have c3_ := hE.cell (hcell k hlt 3 _ rfl)
              have c4 := hE.cell (hcell k hlt 4 _ rfl)
              have c5 := hE.cell (hcell k hlt 5 _ rfl)
              have c6 := hE.cell (hcell k hlt 6 _ rfl)
              have c7 := hE.cell (hcell k hlt 7 _ rfl)
              rw [Nat.add_zero] at c0
              have lbr := Nat.lt_of_lt_of_le lb hE.size
              have hfx := HBf.out _ (List.getElem_mem hlt)
              have HCl := hid hcell
              have HLb := hid lb
              clear hcell q3 hE hR hLs lb
              generalize bs[k] = u at c0 c1 c2_ c3_ c4 c5 c6 c7 hfx
              have hp : u.p.size < 200 ∧ u.d.size < 400 := by have := hfx.1; unfold lightU at this; simpa using this
              have HN := fun W => hid (rname20_c u.p u.item W (by omega) hfx.2)
              have hns := nameK_size u.p u.item hfx.2
              unfold Ver.val at HN
              generalize nameK u.p u.item = nk at HN hns
              go_wp2_with fail
              have e1 := Ext.alloc wr (.cells #[.int .i64 u.item.by_, .int .i64 u.item.n, .int .i64 u.st.v.by_, .int .i64 u.st.v.n, .int .i64 u.st.time, .string u.p, .string u.d, .bool u.dead] 30)
              have hB := Blk.new wr 30 #[.int .i64 u.item.by_, .int .i64 u.item.n, .int .i64 u.st.v.by_, .int .i64 u.st.v.n, .int .i64 u.st.time, .string u.p, .string u.d, .bool u.dead]
              obtain ⟨q, hq⟩ : ∃ q, q = wr.heap.size := ⟨_, rfl⟩
              rw [← hq] at hB ⊢
              clear hq c0 c1 c2_ c3_ c4 c5 c6 c7 lbr
              generalize wr.alloc (.cells #[.int .i64 u.item.by_, .int .i64 u.item.n, .int .i64 u.st.v.by_, .int .i64 u.st.v.n, .int .i64 u.st.time, .string u.p, .string u.d, .bool u.dead] 30) = w1 at e1 hB ⊢
              have HBq := hid hB
              have HE5 := hid (HE4.out.trans e1)
              have HR5 := hid (HR.out.ext e1)
              clear e1 hB HE4 HR
              go_loopw [11, 12] (fun vn i WI => ∃ (j : Nat) (nm : ByteArray), j ≤ bs.length ∧ i = .int .i64 j ∧ vn = .string nm ∧ Hid (nm.size ≤ 300) ∧ Ext w1 WI) (fun _ i _ => bs.length - (intOf i).toNat)
              case atStart => exact ⟨0, u.p, by omega, rfl, rfl, (show u.p.size ≤ 300 by omega), Ext.refl _⟩
              case round =>
                obtain ⟨j, nm, hj, rfl, rfl, hnm, hEi⟩ := hrel
                have HEi := hid hEi
                have hBi := HBq.out.ext hEi
                have u0 := hBi.cell (i := 0) (v := .int .i64 u.item.by_) rfl
                have u1 := hBi.cell (i := 1) (v := .int .i64 u.item.n) rfl
                have u2 := hBi.cell (i := 2) (v := .int .i64 u.st.v.by_) rfl
                have u3 := hBi.cell (i := 3) (v := .int .i64 u.st.v.n) rfl
                have u4 := hBi.cell (i := 4) (v := .int .i64 u.st.time) rfl
                have u5 := hBi.cell (i := 5) (v := .string u.p) rfl
                have u6 := hBi.cell (i := 6) (v := .string u.d) rfl
                have lq := hBi.lt
                by_cases hjl : j < bs.length
                · have hw := HE5.out.trans hEi
                  have g2 := hw.cell (HCl.out j hjl 2 _ rfl)
                  have g3 := hw.cell (HCl.out j hjl 3 _ rfl)
                  have g4 := hw.cell (HCl.out j hjl 4 _ rfl)
                  have g5 := hw.cell (HCl.out j hjl 5 _ rfl)
                  have lg := Nat.lt_of_lt_of_le HLb.out hw.size
                  have HOl := fun W => hid (older_c u.st bs[j].st W)
                  unfold Stamp.val at HOl
                  clear hEi hBi hw
                  generalize bs[j] = y at g2 g3 g4 g5 HOl
                  by_cases hjk : (j : Int) = (k : Int)
                  · have d1 : ((j : Int) != (k : Int)) = false := by simp [hjk]
                    clear hjk
                    go_wp2_with fail
                    refine wp_region_any_order (by kernel_rfl) (by kernel_rfl) (by kernel_rfl) ?_
                    repeat (first
                      | (refine AWq.val rfl rfl rfl rfl (fun K hK => ?_); go_big_quiet_op; refine hK _ ?_; clear hK K)
                      | (refine AWq.skip rfl rfl rfl ?_; simp only [Act.put, List.setIfInBounds_toArray, List.set_cons_succ, List.set_cons_zero])
                      | (refine AWq.call rfl Try.func44 (by kernel_rfl) (by kernel_rfl) rfl rfl rfl ?_; apply Exists.intro; refine And.intro (fun wc hc => ?_) ?_; (· (simp only [argsOf, anyAt, ↓reduceIte, Nat.reduceEqDiff, Array.getD_eq_getD_getElem?, List.getElem?_toArray, List.getElem?_cons_succ, List.getElem?_cons_zero, Option.getD_some]; with_reducible exact (HOl _).out)); simp only [Act.put, List.setIfInBounds_toArray, List.set_cons_succ, List.set_cons_zero]))
                    refine AWq.done rfl rfl rfl (fun w5 x5 => ?_)
                    simp only [closeAny, Act.put, List.setIfInBounds_toArray, List.set_cons_succ, List.set_cons_zero]
                    go_wp2_with fail
                    go_roundw
                    case rel => exact ⟨j + 1, nm, by omega, by go_num, rfl, hnm.out, (HEi.out.trans x5)⟩
                    case measure => simp [intOf]; omega
                  · have d1 : ((j : Int) != (k : Int)) = true := by simp; omega
                    clear hjk
                    cases hp5 : (y.p.toList == u.p.toList) with
                    | false =>
                      go_wp2_with fail
                      refine wp_region_any_order (by kernel_rfl) (by kernel_rfl) (by kernel_rfl) ?_
                      repeat (first
                        | (refine AWq.val rfl rfl rfl rfl (fun K hK => ?_); go_big_quiet_op; refine hK _ ?_; clear hK K)
                        | (refine AWq.skip rfl rfl rfl ?_; simp only [Act.put, List.setIfInBounds_toArray, List.set_cons_succ, List.set_cons_zero])
                        | (refine AWq.call rfl Try.func44 (by kernel_rfl) (by kernel_rfl) rfl rfl rfl ?_; apply Exists.intro; refine And.intro (fun wc hc => ?_) ?_; (· (simp only [argsOf, anyAt, ↓reduceIte, Nat.reduceEqDiff, Array.getD_eq_getD_getElem?, List.getElem?_toArray, List.getElem?_cons_succ, List.getElem?_cons_zero, Option.getD_some]; with_reducible exact (HOl _).out)); simp only [Act.put, List.setIfInBounds_toArray, List.set_cons_succ, List.set_cons_zero]))
                      refine AWq.done rfl rfl rfl (fun w5 x5 => ?_)
                      simp only [closeAny, Act.put, List.setIfInBounds_toArray, List.set_cons_succ, List.set_cons_zero]
                      go_wp2_with fail
                      go_roundw
                      case rel => exact ⟨j + 1, nm, by omega, by go_num, rfl, hnm.out, (HEi.out.trans x5)⟩
                      case measure => simp [intOf]; omega
                    | true =>
                      cases hol : older u.st y.st with
                      | false =>
                        rw [hol] at HOl
                        go_wp2_with fail
                        refine wp_region_any_order (by kernel_rfl) (by kernel_rfl) (by kernel_rfl) ?_
                        repeat (first
                          | (refine AWq.val rfl rfl rfl rfl (fun K hK => ?_); go_big_quiet_op; refine hK _ ?_; clear hK K)
                          | (refine AWq.skip rfl rfl rfl ?_; simp only [Act.put, List.setIfInBounds_toArray, List.set_cons_succ, List.set_cons_zero])
                          | (refine AWq.call rfl Try.func44 (by kernel_rfl) (by kernel_rfl) rfl rfl rfl ?_; apply Exists.intro; refine And.intro (fun wc hc => ?_) ?_; (· (simp only [argsOf, anyAt, ↓reduceIte, Nat.reduceEqDiff, Array.getD_eq_getD_getElem?, List.getElem?_toArray, List.getElem?_cons_succ, List.getElem?_cons_zero, Option.getD_some]; with_reducible exact (HOl _).out)); simp only [Act.put, List.setIfInBounds_toArray, List.set_cons_succ, List.set_cons_zero]))
                        refine AWq.done rfl rfl rfl (fun w5 x5 => ?_)
                        simp only [closeAny, Act.put, List.setIfInBounds_toArray, List.set_cons_succ, List.set_cons_zero]
                        go_wp2_with fail
                        go_roundw
                        case rel => exact ⟨j + 1, nm, by omega, by go_num, rfl, hnm.out, (HEi.out.trans x5)⟩
                        case measure => simp [intOf]; omega
                      | true =>
                        rw [hol] at HOl
                        go_wp2_with fail
                        refine wp_region_any_order (by kernel_rfl) (by kernel_rfl) (by kernel_rfl) ?_
                        repeat (first
                          | (refine AWq.val rfl rfl rfl rfl (fun K hK => ?_); go_big_quiet_op; refine hK _ ?_; clear hK K)
                          | (refine AWq.skip rfl rfl rfl ?_; simp only [Act.put, List.setIfInBounds_toArray, List.set_cons_succ, List.set_cons_zero])
                          | (refine AWq.call rfl Try.func44 (by kernel_rfl) (by kernel_rfl) rfl rfl rfl ?_; apply Exists.intro; refine And.intro (fun wc hc => ?_) ?_; (· (simp only [argsOf, anyAt, ↓reduceIte, Nat.reduceEqDiff, Array.getD_eq_getD_getElem?, List.getElem?_toArray, List.getElem?_cons_succ, List.getElem?_cons_zero, Option.getD_some]; with_reducible exact (HOl _).out)); simp only [Act.put, List.setIfInBounds_toArray, List.set_cons_succ, List.set_cons_zero]))
                        refine AWq.done rfl rfl rfl (fun w5 x5 => ?_)
                        simp only [closeAny, Act.put, List.setIfInBounds_toArray, List.set_cons_succ, List.set_cons_zero]
                        have f0 := x5.cell u0
                        have f1 := x5.cell u1
                        have f5 := x5.cell u5
                        have lq5 := Nat.lt_of_lt_of_le lq x5.size
                        have HX5 := hid x5
                        clear u0 u1 u2 u3 u4 u5 u6 lq x5 g2 g3 g4 g5 lg
                        go_wp2_with (go_at_call 17; refine ((HN _).out).mono ?_; rintro e w7 ⟨rfl, hx7⟩; have HX7 := hid hx7; clear hx7)
                        go_roundw
                        case rel => exact ⟨j + 1, nk, by omega, by go_num, rfl, (show nk.size ≤ 300 by omega), HEi.out.trans (HX5.out.trans HX7.out)⟩
                        case measure => simp [intOf]; omega
                · obtain rfl : j = bs.length := by omega
                  have HPut := hid (put20_e wr ov L ⟨nm, u.p, u.item, u.d⟩ (HR5.out.ext hEi) (by omega))
                  unfold LeafI.val at HPut
                  clear hEi hBi
                  go_wp2_with (go_at_call 49; refine (HPut.out).mono ?_; rintro e w8 ⟨v8, rfl, ⟨kk, hkk, hr8⟩, hx8⟩; have HX8 := hid hx8; have HR8 := hid hr8; clear hx8 hr8)
                  go_roundw
                  case rel => exact ⟨k + 1, _, L.take kk ++ [⟨nm, u.p, u.item, u.d⟩] ++ L.drop kk, by omega, by go_num, rfl, HE5.out.trans (HEi.out.trans HX8.out), HR8.out, by simp; omega, fun x hx => by
                    rcases List.mem_append.1 hx with hx | hx
                    · rcases List.mem_append.1 hx with hx | hx
                      · exact HLs.out x (List.mem_of_mem_take hx)
                      · rw [List.mem_singleton.1 hx]; exact ⟨hnm.out, (show u.p.size ≤ 300 by omega), (show u.d.size ≤ 400 by omega)⟩
                    · exact HLs.out x (List.mem_of_mem_drop hx)⟩
                  case measure => simp [intOf]; omega
            · obtain rfl : k = bs.length := by omega
              clear hE hR q3 hLs
              go_wp2_with fail
              go_ret
              exact ⟨_, rfl, ⟨L, HR.out, by omega, HLs.out⟩, HE2.out.trans HE4.out⟩
end Go.Proofs.Ytgkdiknmjgpgmaa
