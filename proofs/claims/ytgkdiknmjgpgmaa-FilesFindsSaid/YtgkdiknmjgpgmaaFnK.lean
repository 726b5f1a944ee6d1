/-
  The law FilesFinds: its walk.
-/
import Derived.Test.YtgkdiknmjgpgmaaFnJ
namespace Go.Proofs.Ytgkdiknmjgpgmaa
set_option linter.unusedSimpArgs false
set_option linter.unusedVariables false
open Go.RowKit Go.Sort

theorem Keep.farB {S T : Nat → Prop} {a b c : World} (h : Keep S a b) (k : Keep T b c) (hs : ∀ q, T q → a.heap.size ≤ q) : Keep S a c :=
  ⟨k.os.trans h.os, k.tape.trans h.tape, k.output.trans h.output, Nat.le_trans h.size k.size, fun q hq hn => (k.block q (Nat.lt_of_lt_of_le hq h.size) (fun ht => absurd (hs q ht) (by omega))).trans (h.block q hq hn)⟩
theorem findN_take {l : List LeafI} {n : ByteArray} {k : Nat} (h : k < l.length) : findN (l.take (k + 1)) n = (findN (l.take k) n).or (if l[k].name = n then some l[k] else none) := by
  unfold findN
  rw [List.take_succ_eq_append_getElem h, List.find?_append]
  congr 1
  by_cases e : l[k].name = n
  · rw [if_pos e, List.find?_cons_of_pos (by simp [e])]
  · rw [if_neg e, List.find?_cons_of_neg (by simp [e])]; rfl
theorem put5_keep {S : Nat → Prop} {w W : World} {q : Nat} (h : Keep S w W) (hq : S q ∨ w.heap.size ≤ q) (u : LeafI) : Keep S w (put5 W q u) :=
  ((((h.setCell (p := ⟨q, 0, none⟩) hq _).setCell (p := ⟨q, 1, none⟩) hq _).setCell (p := ⟨q, 2, none⟩) hq _).setCell (p := ⟨q, 3, none⟩) hq _).setCell (p := ⟨q, 4, none⟩) hq _
theorem put5_size (W : World) (q : Nat) (u : LeafI) : (put5 W q u).heap.size = W.heap.size := by simp [put5]
set_option maxRecDepth 100000 in
set_option maxHeartbeats 4000000 in
theorem filesFinds_walk (w : World) (u : Value) (a : List UpdI) (n p : ByteArray) (ha : Sl w 8 u (a.map UpdI.cells)) (hka : ∀ x ∈ a, okV x.item) : Calls Try.prog 5 #[u, .string n, .string p] w (Ret (.bool true) w) := by
  have HF1 := hid (few20_e w u a ha hka)
  obtain ⟨A, c, rfl, _⟩ := sl_get ha
  clear ha hka
  by_cases hn3 : 300 < n.size
  · have d0 : decide ((300 : Int) < n.size) = true := by simp; omega
    clear HF1
    go_enter Try.func5, Try.ntmps5
    go_wp2_with (go_at_call 14; refine (awake20_c _).mono ?_; rintro e w3 ⟨rfl, hx3⟩; have HW3 := hid hx3; clear hx3)
    go_ret
    exact ⟨rfl, HW3.out⟩
  · have d0 : decide ((300 : Int) < n.size) = false := by simp; omega
    by_cases hp3 : 300 < p.size
    · have d1 : decide ((300 : Int) < p.size) = true := by simp; omega
      clear HF1
      go_enter Try.func5, Try.ntmps5
      go_wp2_with (go_at_call 14; refine (awake20_c _).mono ?_; rintro e w3 ⟨rfl, hx3⟩; have HW3 := hid hx3; clear hx3)
      go_ret
      exact ⟨rfl, HW3.out⟩
    · have d1 : decide ((300 : Int) < p.size) = false := by simp; omega
      go_enter Try.func5, Try.ntmps5
      go_wp2_with (first
        | (go_at_call 18; refine (HLv _ HB1.out).out.mono ?_; rintro e w2 ⟨v2, rfl, ⟨L, hL, hL1, hL2⟩, hx2⟩; have HX2 := hid (HX1.out.trans hx2); have HLs := hid hL.1; have HSl := hid hL2; obtain ⟨A2, c2, rfl, p1, p2, p3⟩ := sl_get hL.1; clear hx2 hL hL2 HLv)
        | (go_at_call 10; refine (HF1.out).mono ?_; rintro e w1 ⟨v1, rfl, ⟨b, hb, hb1, hb2⟩, hx1⟩; have HX1 := hid hx1; have HB1 := hid hb.1; have HLv := fun W (hs : Sl W 8 v1 (b.map UpdI.cells)) => hid (leaves_e W v1 b hs (by omega) hb2); clear hx1 hb hb2 HF1))
      unfold maxLen at p2
      have e0 := Ext.alloc w2 (.cells #[.string ⟨#[]⟩, .string ⟨#[]⟩, .int .i64 0, .int .i64 0, .string ⟨#[]⟩] 35)
      have b8 := Blk.new w2 35 #[.string ⟨#[]⟩, .string ⟨#[]⟩, .int .i64 0, .int .i64 0, .string ⟨#[]⟩]
      obtain ⟨q, hq⟩ : ∃ q, q = w2.heap.size := ⟨_, rfl⟩
      rw [← hq] at b8 ⊢
      have lq9 := b8.lt
      have n2 : w2.heap.size ≤ q := by omega
      have nlt : ∀ b, b < w2.heap.size → b ≠ q := by intro b hb; omega
      clear hq
      generalize w2.alloc (.cells #[.string ⟨#[]⟩, .string ⟨#[]⟩, .int .i64 0, .int .i64 0, .string ⟨#[]⟩] 35) = w9 at e0 b8 lq9 ⊢
      have HE9 := hid e0
      have HB8 := hid b8
      clear e0 b8
      go_loopw [9, 10, 11] (fun f v i wr => ∃ (k : Nat) (bb : Bool), k ≤ L.length ∧ f = .bool bb ∧ bb = (findN (L.take k) n).isSome ∧ i = .int .i64 k ∧ Keep (fun z => z = q) w9 wr ∧ Blk wr q 35 ((findN (L.take k) n).getD leaf0).arr ∧ ((underL p (L.take k)).length = 0 → v = .slice none 0 0) ∧ wr.ownsRow w9.heap.size 35 5 v (underL p (L.take k)).length ((underL p (L.take k)).map LeafI.cells).flatten) (fun _ _ i _ => L.length - (intOf i).toNat)
      case atStart => exact ⟨0, false, by omega, rfl, rfl, rfl, Keep.refl _ _, HB8.out, (fun _ => rfl), ownsRow_nil _ _ _ _⟩
      case round =>
        obtain ⟨k, bb, hk, rfl, hbb, rfl, hK, hB, hz, hO⟩ := hrel
        have HK := hid hK
        have HB := hid hB
        have HO := hid hO
        have HZ := hid hz
        have hE2 := hK.toExt HE9.out (fun z hz => by rw [hz]; exact n2)
        by_cases hlt : k < L.length
        · obtain ⟨b, o, rfl, lb, hcell⟩ := p3 (by omega)
          have c0 := hE2.cell (hcell k hlt 0 _ rfl)
          have c1 := hE2.cell (hcell k hlt 1 _ rfl)
          have c2 := hE2.cell (hcell k hlt 2 _ rfl)
          have c3 := hE2.cell (hcell k hlt 3 _ rfl)
          have c4 := hE2.cell (hcell k hlt 4 _ rfl)
          rw [Nat.add_zero] at c0
          have lbr := Nat.lt_of_lt_of_le lb hE2.size
          have nb := nlt b lb
          have nb' := nb.symm
          have HFi := hid (findN_take (n := n) hlt)
          have HM := hid (underL_take (p := p) hlt)
          have hln := underL_len p L k
          have hsz := HSl.out _ (List.getElem_mem hlt)
          clear hcell p3 hE2 hz hO hK hB nlt
          generalize findN (L.take k) n = fo at HFi hbb HB
          generalize underL p (L.take k) = acc at HO HZ HM hln
          generalize L[k] = x at c0 c1 c2 c3 c4 HM hsz HFi
          unfold Slight at hsz
          have HC := fun W => hid (rcovers_c p x.path W (by unfold maxLen; omega) (by unfold maxLen; omega))
          by_cases he : x.name = n
          · have d2 : (x.name.toList == n.toList) = true := by rw [he]; simp
            rw [if_pos he] at HFi
            clear he
            cases fo with
            | none =>
              obtain rfl : bb = false := hbb
              have HFi : Hid (_ = some x) := HFi
              have hb1 := HB.out
              unfold LeafI.arr at hb1
              have y0 := hb1.cell (i := 0) rfl
              have y1 := hb1.cell (i := 1) rfl
              have y2 := hb1.cell (i := 2) rfl
              have y3 := hb1.cell (i := 3) rfl
              have y4 := hb1.cell (i := 4) rfl
              have z0 := hb1.frozen 0
              have z1 := hb1.frozen 1
              have z2 := hb1.frozen 2
              have z3 := hb1.frozen 3
              have z4 := hb1.frozen 4
              have lqr := hb1.lt
              clear hb1
              have HKp := hid (put5_keep HK.out (.inl rfl) x)
              have HBp := hid (put5_blk HB.out x)
              have HOp := hid (ownsRow_keep HO.out (put5_keep (Keep.refl (fun z => z = q) wr) (.inl rfl) x) (fun z hz => by have := (row_block HO.out z hz).1; omega))
              cases hc : cov p x.path with
              | false =>
                rw [hc] at HC HM
                rw [if_neg Bool.false_ne_true] at HM
                clear hc
                go_wp2_with (go_at_call 19; refine (HC _).out.mono ?_; rintro e w5 ⟨rfl, rfl⟩)
                go_roundw
                case rel => exact ⟨k + 1, true, by omega, rfl, by rw [HFi.out]; rfl, by go_num, HKp.out, by rw [HFi.out]; exact HBp.out, (by rw [HM.out]; exact HZ.out), by rw [HM.out]; exact HOp.out⟩
                case measure => simp [intOf]; omega
              | true =>
                rw [hc] at HC HM
                rw [if_pos rfl] at HM
                have hrow0 := HOp.out
                obtain ⟨v', w6, hrun6, ho6, hk6, _⟩ := app_one (P := Try.prog) leaf_elem leaf_coded hrow0 (HKp.out).size x (by omega) (by omega)
                simp only [LeafI.cells] at hrun6
                have HK6 := hid (Keep.farB (HKp.out) hk6 (fun z hz => (row_block hrow0 z hz).1))
                have HO6 := hid ho6
                have HB6 := hid ((HBp.out).keep hk6 (fun hq => by have := (row_block hrow0 _ hq).1; omega))
                clear ho6 hk6 hc hrow0
                (rw [put5_size] at hrun6; unfold put5 at hrun6)
                go_wp2_with (first
                  | (at_builtin; refine wpList_app rfl (.tmp 56) (.tmp 61) _ _ rfl rfl rfl hrun6 ?_)
                  | (go_at_call 19; refine (HC _).out.mono ?_; rintro e w5 ⟨rfl, rfl⟩))
                go_roundw
                case rel => exact ⟨k + 1, true, by omega, rfl, by rw [HFi.out]; rfl, by go_num, HK6.out, by rw [HFi.out]; exact HB6.out, (fun h => by rw [HM.out] at h; simp at h), by rw [HM.out]; exact HO6.out⟩
                case measure => simp [intOf]; omega
            | some y =>
              obtain rfl : bb = true := hbb
              have HFi : Hid (_ = some y) := HFi
              cases hc : cov p x.path with
              | false =>
                rw [hc] at HC HM
                rw [if_neg Bool.false_ne_true] at HM
                clear hc
                go_wp2_with (go_at_call 19; refine (HC _).out.mono ?_; rintro e w5 ⟨rfl, rfl⟩)
                go_roundw
                case rel => exact ⟨k + 1, true, by omega, rfl, by rw [HFi.out]; rfl, by go_num, HK.out, by rw [HFi.out]; exact HB.out, (by rw [HM.out]; exact HZ.out), by rw [HM.out]; exact HO.out⟩
                case measure => simp [intOf]; omega
              | true =>
                rw [hc] at HC HM
                rw [if_pos rfl] at HM
                have hrow0 := HO.out
                obtain ⟨v', w6, hrun6, ho6, hk6, _⟩ := app_one (P := Try.prog) leaf_elem leaf_coded hrow0 (HK.out).size x (by omega) (by omega)
                simp only [LeafI.cells] at hrun6
                have HK6 := hid (Keep.farB (HK.out) hk6 (fun z hz => (row_block hrow0 z hz).1))
                have HO6 := hid ho6
                have HB6 := hid ((HB.out).keep hk6 (fun hq => by have := (row_block hrow0 _ hq).1; omega))
                clear ho6 hk6 hc hrow0
                skip
                go_wp2_with (first
                  | (at_builtin; refine wpList_app rfl (.tmp 56) (.tmp 61) _ _ rfl rfl rfl hrun6 ?_)
                  | (go_at_call 19; refine (HC _).out.mono ?_; rintro e w5 ⟨rfl, rfl⟩))
                go_roundw
                case rel => exact ⟨k + 1, true, by omega, rfl, by rw [HFi.out]; rfl, by go_num, HK6.out, by rw [HFi.out]; exact HB6.out, (fun h => by rw [HM.out] at h; simp at h), by rw [HM.out]; exact HO6.out⟩
                case measure => simp [intOf]; omega
          · have d2 : (x.name.toList == n.toList) = false := by rw [beq_toList]; simp [he]
            rw [if_neg he] at HFi
            clear he
            cases fo with
            | none =>
              obtain rfl : bb = false := hbb
              have HFi : Hid (_ = none) := HFi
              cases hc : cov p x.path with
              | false =>
                rw [hc] at HC HM
                rw [if_neg Bool.false_ne_true] at HM
                clear hc
                go_wp2_with (go_at_call 19; refine (HC _).out.mono ?_; rintro e w5 ⟨rfl, rfl⟩)
                go_roundw
                case rel => exact ⟨k + 1, false, by omega, rfl, by rw [HFi.out]; rfl, by go_num, HK.out, by rw [HFi.out]; exact HB.out, (by rw [HM.out]; exact HZ.out), by rw [HM.out]; exact HO.out⟩
                case measure => simp [intOf]; omega
              | true =>
                rw [hc] at HC HM
                rw [if_pos rfl] at HM
                have hrow0 := HO.out
                obtain ⟨v', w6, hrun6, ho6, hk6, _⟩ := app_one (P := Try.prog) leaf_elem leaf_coded hrow0 (HK.out).size x (by omega) (by omega)
                simp only [LeafI.cells] at hrun6
                have HK6 := hid (Keep.farB (HK.out) hk6 (fun z hz => (row_block hrow0 z hz).1))
                have HO6 := hid ho6
                have HB6 := hid ((HB.out).keep hk6 (fun hq => by have := (row_block hrow0 _ hq).1; omega))
                clear ho6 hk6 hc hrow0
                skip
                go_wp2_with (first
                  | (at_builtin; refine wpList_app rfl (.tmp 56) (.tmp 61) _ _ rfl rfl rfl hrun6 ?_)
                  | (go_at_call 19; refine (HC _).out.mono ?_; rintro e w5 ⟨rfl, rfl⟩))
                go_roundw
                case rel => exact ⟨k + 1, false, by omega, rfl, by rw [HFi.out]; rfl, by go_num, HK6.out, by rw [HFi.out]; exact HB6.out, (fun h => by rw [HM.out] at h; simp at h), by rw [HM.out]; exact HO6.out⟩
                case measure => simp [intOf]; omega
            | some y =>
              obtain rfl : bb = true := hbb
              have HFi : Hid (_ = some y) := HFi
              cases hc : cov p x.path with
              | false =>
                rw [hc] at HC HM
                rw [if_neg Bool.false_ne_true] at HM
                clear hc
                go_wp2_with (go_at_call 19; refine (HC _).out.mono ?_; rintro e w5 ⟨rfl, rfl⟩)
                go_roundw
                case rel => exact ⟨k + 1, true, by omega, rfl, by rw [HFi.out]; rfl, by go_num, HK.out, by rw [HFi.out]; exact HB.out, (by rw [HM.out]; exact HZ.out), by rw [HM.out]; exact HO.out⟩
                case measure => simp [intOf]; omega
              | true =>
                rw [hc] at HC HM
                rw [if_pos rfl] at HM
                have hrow0 := HO.out
                obtain ⟨v', w6, hrun6, ho6, hk6, _⟩ := app_one (P := Try.prog) leaf_elem leaf_coded hrow0 (HK.out).size x (by omega) (by omega)
                simp only [LeafI.cells] at hrun6
                have HK6 := hid (Keep.farB (HK.out) hk6 (fun z hz => (row_block hrow0 z hz).1))
                have HO6 := hid ho6
                have HB6 := hid ((HB.out).keep hk6 (fun hq => by have := (row_block hrow0 _ hq).1; omega))
                clear ho6 hk6 hc hrow0
                skip
                go_wp2_with (first
                  | (at_builtin; refine wpList_app rfl (.tmp 56) (.tmp 61) _ _ rfl rfl rfl hrun6 ?_)
                  | (go_at_call 19; refine (HC _).out.mono ?_; rintro e w5 ⟨rfl, rfl⟩))
                go_roundw
                case rel => exact ⟨k + 1, true, by omega, rfl, by rw [HFi.out]; rfl, by go_num, HK6.out, by rw [HFi.out]; exact HB6.out, (fun h => by rw [HM.out] at h; simp at h), by rw [HM.out]; exact HO6.out⟩
                case measure => simp [intOf]; omega
        · obtain rfl : k = L.length := by omega
          rw [List.take_length] at hbb hB hz hO
          have HE2 := hid hE2
          have HFd := hid (ffind_c wr _ L n (HLs.out.ext hE2))
          unfold foundK at HFd
          rw [← hbb] at HFd
          obtain ⟨o, ho⟩ : ∃ o, o = (findN L n).getD leaf0 := ⟨_, rfl⟩
          rw [← ho] at HFd hB
          unfold LeafI.val at HFd
          unfold LeafI.arr at hB
          have HBw := hid hB
          have hrow := RowAt.of_row leaf_coded hO hz
          have HRo := hid hrow.1
          have HUn := fun W (hW : Ext wr W) => hid (funder_c W _ L p (HLs.out.ext (hE2.trans hW)) (by omega) (by omega) (fun x hx => by have := HSl.out x hx; unfold Slight at this; omega))
          clear hE2 p3 hz hO hK hB nlt hbb ho hrow HO HZ HB HK HSl HLs HB8
          go_wp2_with (first
            | (go_at_call 21; refine (lsame_c _ _ _ (underL p L) HU.out (HRo.out.ext X6.out)).mono ?_; rintro e w7 ⟨rfl, hx7⟩; have X7 := hid (X6.out.trans hx7); clear hx7)
            | (go_at_call 22; refine (HUn _ X5.out).out.mono ?_; rintro e w6 ⟨v6, rfl, hv6, hx6⟩; have X6 := hid (X5.out.trans hx6); have HU := hid hv6.1; clear hx6 hv6)
            | (go_at_call 14; refine (awake20_c _).mono ?_; rintro e w5 ⟨rfl, hx5⟩; have X5 := hid ((X4.out.alloc' _).trans hx5); have gy := (Blk.new w4 35 #[.string o.name, .string o.path, .int .i64 o.item.by_, .int .i64 o.item.n, .string o.d]).ext hx5; have y0 := gy.cell (i := 0) rfl; have y1 := gy.cell (i := 1) rfl; have y2 := gy.cell (i := 2) rfl; have y3 := gy.cell (i := 3) rfl; have y4 := gy.cell (i := 4) rfl; have yl := gy.lt; have gw := HBw.out.ext X5.out; have z0 := gw.cell (i := 0) rfl; have z1 := gw.cell (i := 1) rfl; have z2 := gw.cell (i := 2) rfl; have z3 := gw.cell (i := 3) rfl; have z4 := gw.cell (i := 4) rfl; have zl := gw.lt; clear hx5 gy gw)
            | (go_at_call 20; refine (HFd.out).mono ?_; rintro e w4 ⟨rfl, hx4⟩; have X4 := hid hx4; clear hx4 HFd))
          go_ret
          exact ⟨by simp, HX2.out.trans (HE2.out.trans X7.out)⟩
end Go.Proofs.Ytgkdiknmjgpgmaa
