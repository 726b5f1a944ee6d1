/-
  files.Leaves at any length: a permutation of the leaves.
-/
import Derived.Test.YtjbpdepeimgocaaFnGk
import Derived.Test.YtjbpdepeimgocaaFnVk
namespace Go.Proofs.Ytjbpdepeimgocaa
set_option linter.unusedSimpArgs false
set_option linter.unusedVariables false
open Go.RowKit Go.Sort

set_option maxRecDepth 100000 in
set_option maxHeartbeats 4000000 in
theorem fleavesP_c (w : World) (v : Value) (l : List UpdI) (h : Sl w 8 v (l.map UpdI.cells)) (hl : l.length ≤ 1000) (hok : ∀ u ∈ l, u.p.size ≤ 1000 ∧ okV u.item) (hal : (aliveK l).length ≤ 1000) :
    Calls Try.prog 6 #[v] w (RetQ (fun v' w' => ∃ L : List LeafI, L.Perm ((aliveK l).map (leafOf (aliveK l))) ∧ RowAt LeafI.cells 5 L v' w') w) := by
  have e1 := Ext.alloc w (.cells #[v] 22)
  have HA := hid (alive_c _ v l (h.ext e1) hl)
  have HOk : Hid (∀ u ∈ aliveK l, u.p.size ≤ 1000 ∧ okV u.item) := fun u hu => hok u (seenK_mem hu).1
  have hq := Blk.new w 22 #[v]
  obtain ⟨A, c, rfl, _⟩ := sl_get h
  have HQ := hid hq
  have HE1 := hid e1
  have q0 := hq.cell (i := 0) (v := .slice A l.length c) rfl
  have lq := hq.lt
  clear h hok hq e1
  generalize aliveK l = al at HA HOk hal ⊢
  go_enter Try.func6, Try.ntmps6
  go_wp2_with (go_at_call 13; refine (HA.out).mono ?_; rintro e w2 ⟨v2, rfl, hv2, hx2⟩; have HX2 := hid hx2; have HQ2 := hid (HQ.out.ext hx2); have g0 := HQ2.out.cell (i := 0) (v := .slice A l.length c) rfl; have gz := HQ2.out.frozen 0; have gl := HQ2.out.lt; obtain ⟨A2, c2, rfl, p1, p2, p3⟩ := sl_get hv2.1.1; have HS2 := hid hv2.1.1; have HFr := hid hv2.2; clear hv2 hx2 HA)
  obtain ⟨q1, hq1⟩ : ∃ q, q = w.heap.size := ⟨_, rfl⟩
  rw [← hq1] at HQ2 ⊢
  have n1 : w.heap.size ≤ q1 := by omega
  have hEs : Ext w (w2.setCell ⟨q1, 0, none⟩ (.slice A2 al.length c2)) := (HE1.out.trans HX2.out).setCell' (p := ⟨q1, 0, none⟩) n1 _
  have hBs := HQ2.out.set 0 (.slice A2 al.length c2)
  have hKs : Keep (fun q => q = q1) w2 (w2.setCell ⟨q1, 0, none⟩ (.slice A2 al.length c2)) := (Keep.refl (fun q => q = q1) w2).setCell (p := ⟨q1, 0, none⟩) (.inl rfl) _
  have hSs := Sl.keepB HS2.out hKs (fun _ b o n c e hb => by
    have := HFr.out b o n c e
    rw [World.size_alloc] at this
    omega)
  clear hKs
  generalize w2.setCell ⟨q1, 0, none⟩ (.slice A2 al.length c2) = w3 at hEs hBs hSs ⊢
  obtain ⟨A3, c3, hA3, p1, p2, p3⟩ := sl_get hSs
  injection hA3 with hA3 _ hc3
  subst hA3
  subst hc3
  unfold maxLen at p2
  have HEs := hid hEs
  have HBs : Hid (Blk w3 q1 22 #[.slice A2 al.length c2]) := hBs
  have HSs := hid hSs
  clear hEs hBs hSs HS2 HFr HQ2 HX2 HQ HE1 hq1
  go_loopw [3, 13] (fun v i wr => ∃ (k : Nat) (ov : Value), ov = v ∧ k ≤ al.length ∧ i = .int .i64 k ∧ Ext w3 wr ∧ (((al.take k).map (leafOf al)).length = 0 → ov = .slice none 0 0) ∧ wr.ownsRow w3.heap.size 35 5 ov ((al.take k).map (leafOf al)).length (((al.take k).map (leafOf al)).map LeafI.cells).flatten) (fun _ i _ => al.length - (intOf i).toNat)
  case atStart => exact ⟨0, _, rfl, by omega, rfl, Ext.refl _, (fun _ => rfl), ownsRow_nil _ _ _ _⟩
  case round =>
    obtain ⟨k, v, rfl, hk, rfl, hE, hz, hO⟩ := hrel
    have HE := hid hE
    have HO := hid hO
    have HZ := hid hz
    by_cases hlt : k < al.length
    · obtain ⟨b', o, rfl, lb, hcell⟩ := p3 (by omega)
      have c0 := hE.cell (hcell k hlt 0 _ rfl)
      have c1 := hE.cell (hcell k hlt 1 _ rfl)
      have c2 := hE.cell (hcell k hlt 2 _ rfl)
      have c3 := hE.cell (hcell k hlt 3 _ rfl)
      have c4 := hE.cell (hcell k hlt 4 _ rfl)
      have c5 := hE.cell (hcell k hlt 5 _ rfl)
      have c6 := hE.cell (hcell k hlt 6 _ rfl)
      have c7 := hE.cell (hcell k hlt 7 _ rfl)
      rw [Nat.add_zero] at c0
      have lbr := Nat.lt_of_lt_of_le lb hE.size
      have HM := hid (map_take_snoc (leafOf al) al k hlt)
      have hln : ((al.take k).map (leafOf al)).length ≤ 1000 := by rw [List.length_map, List.length_take]; omega
      obtain ⟨hx1, hx2⟩ := HOk.out _ (List.getElem_mem hlt)
      have HFi := fun W (hW : Ext wr W) => hid (first_c W q1 _ al al[k] ((HBs.out.ext hE).ext hW) (HSs.out.ext (hE.trans hW)))
      have HN := fun W => hid (fname_c al[k].p al[k].item W hx1 hx2)
      clear hcell p3 hE hz hO
      generalize (al.take k).map (leafOf al) = acc at HO HZ HM hln
      generalize al[k] = x at c0 c1 c2 c3 c4 c5 c6 c7 HM hx1 hx2 HFi HN
      have hsz := nameK_size x.p x.item hx2
      have HX : Hid (leafOf al x = ⟨if firstB al x then x.p else nameK x.p x.item, x.p, x.item, x.d⟩) := rfl
      generalize nameK x.p x.item = nm at HX HN hsz
      unfold UpdI.val at HFi
      unfold Ver.val at HN
      have e67 := (Ext.alloc wr (.cells #[.int .i64 x.item.by_, .int .i64 x.item.n, .int .i64 x.st.v.by_, .int .i64 x.st.v.n, .int .i64 x.st.time, .string x.p, .string x.d, .bool x.dead] 30)).alloc' (.cells #[.string x.p, .string x.p, .int .i64 x.item.by_, .int .i64 x.item.n, .string x.d] 35)
      have b6 := (Blk.new wr 30 #[.int .i64 x.item.by_, .int .i64 x.item.n, .int .i64 x.st.v.by_, .int .i64 x.st.v.n, .int .i64 x.st.time, .string x.p, .string x.d, .bool x.dead]).alloc (.cells #[.string x.p, .string x.p, .int .i64 x.item.by_, .int .i64 x.item.n, .string x.d] 35)
      have b7 := Blk.new (wr.alloc (.cells #[.int .i64 x.item.by_, .int .i64 x.item.n, .int .i64 x.st.v.by_, .int .i64 x.st.v.n, .int .i64 x.st.time, .string x.p, .string x.d, .bool x.dead] 30)) 35 #[.string x.p, .string x.p, .int .i64 x.item.by_, .int .i64 x.item.n, .string x.d]
      rw [World.size_alloc] at b7
      have B6 := hid b6
      have B7 := hid b7
      have E67 := hid e67
      clear b6 b7 e67
      cases hf : firstB al x with
      | true =>
        rw [hf] at HFi HX
        rw [if_pos rfl] at HX
        clear hf HN
        go_wp2_with (first
          | (at_builtin; obtain ⟨v', w6, hrun6, ho6, hk6, _⟩ := app_one (P := Try.prog) leaf_elem leaf_coded (ownsRow_ext HO.out X4.out) (Nat.le_trans HE.out.size X4.out.size) ⟨x.p, x.p, x.item, x.d⟩ (by omega) (by omega); simp only [LeafI.cells] at hrun6; have HE6 := hid (hk6.toExt (HE.out.trans X4.out) (fun q hq => (row_block HO.out q hq).1)); have HO6 := hid ho6; clear ho6 hk6; refine wpList_app rfl (.tmp 36) (.tmp 38) _ _ rfl rfl rfl hrun6 ?_)
          | (refine (HFi _ E67.out).out.mono ?_; rintro e w4 ⟨rfl, hx4⟩; have X4 := hid (E67.out.trans hx4); have g7 := B7.out.ext hx4; have f0 := g7.cell (i := 0) rfl; have f1 := g7.cell (i := 1) rfl; have f2 := g7.cell (i := 2) rfl; have f3 := g7.cell (i := 3) rfl; have f4 := g7.cell (i := 4) rfl; have fl := g7.lt; clear hx4 g7))
        go_roundw
        case rel => exact ⟨k + 1, _, rfl, by omega, by go_num, HE6.out, (fun h => by rw [HM.out] at h; simp at h), by rw [HM.out, HX.out]; exact HO6.out⟩
        case measure => simp [intOf]; omega
      | false =>
        rw [hf] at HFi HX
        rw [if_neg Bool.false_ne_true] at HX
        clear hf
        go_wp2_with (first
          | (at_builtin; have hE5 := X5.out.setCell' (p := ⟨wr.heap.size + 1, 0, none⟩) (Nat.le_succ wr.heap.size) (.string nm); obtain ⟨v', w6, hrun6, ho6, hk6, _⟩ := app_one (P := Try.prog) leaf_elem leaf_coded (ownsRow_ext HO.out hE5) (Nat.le_trans HE.out.size hE5.size) ⟨nm, x.p, x.item, x.d⟩ (by omega) (by omega); simp only [LeafI.cells, World.size_setCell] at hrun6; have HE6 := hid (hk6.toExt (HE.out.trans hE5) (fun q hq => (row_block HO.out q hq).1)); have HO6 := hid ho6; clear ho6 hk6 hE5; refine wpList_app rfl (.tmp 36) (.tmp 38) _ _ rfl rfl rfl hrun6 ?_)
          | (go_at_call 16; refine (HN _).out.mono ?_; rintro e w5 ⟨rfl, hx5⟩; have X5 := hid (X4.out.trans hx5); have g7 := G7.out.ext hx5; have f0 := g7.cell (i := 0) rfl; have f1 := g7.cell (i := 1) rfl; have f2 := g7.cell (i := 2) rfl; have f3 := g7.cell (i := 3) rfl; have f4 := g7.cell (i := 4) rfl; have fz0 := g7.frozen 0; have fl := g7.lt; clear hx5 g7 HN)
          | (refine (HFi _ E67.out).out.mono ?_; rintro e w4 ⟨rfl, hx4⟩; have X4 := hid (E67.out.trans hx4); have G7 := hid (B7.out.ext hx4); have g6 := B6.out.ext hx4; have y0 := g6.cell (i := 0) rfl; have y1 := g6.cell (i := 1) rfl; have y5 := g6.cell (i := 5) rfl; have yl := g6.lt; clear hx4 g6))
        go_roundw
        case rel => exact ⟨k + 1, _, rfl, by omega, by go_num, HE6.out, (fun h => by rw [HM.out] at h; simp at h), by rw [HM.out, HX.out]; exact HO6.out⟩
        case measure => simp [intOf]; omega
    · obtain rfl : k = al.length := by omega
      rw [List.take_length] at hO hz
      have hll : (al.map (leafOf al)).length ≤ 1000000 := by rw [List.length_map]; omega
      have HSt := hid (sortStable_c hO hll)
      clear hE p3 hz hO
      go_wp2_with (go_at_call 17; refine (HSt.out).mono ?_; rintro e w9 ⟨rfl, hk9, L, hL1, -, hL3⟩; have HK9 := hid hk9; have HL1 := hid hL1; have HL3 := hid hL3; clear hk9 hL1 hL3)
      go_ret
      refine ⟨_, rfl, ⟨L, HL1.out, RowAt.of_row leaf_coded HL3.out (fun h0 => HZ.out ?_)⟩, HEs.out.trans (HK9.out.toExt HE.out (fun q hq => (row_block HO.out q hq).1))⟩
      · rw [List.take_length, ← HL1.out.length_eq]; exact h0
end Go.Proofs.Ytjbpdepeimgocaa
