/-
  Package diff: turns of an item.
-/
import Derived.Test.YtgkdiknmjgpgmaaElm
namespace Go.Proofs.Ytgkdiknmjgpgmaa
set_option linter.unusedSimpArgs false
set_option linter.unusedVariables false
open Go.RowKit Go.Sort

def turnsV (x y : LeafI) (was is : Bool) : List TurnI :=
  if is then (if was then (if x.name = y.name then [] else [⟨4, y.name, x.name, ⟨#[]⟩⟩]) ++ (if x.d = y.d then [] else [⟨3, y.name, ⟨#[]⟩, y.d⟩]) else [⟨1, y.name, ⟨#[]⟩, y.d⟩]) else [⟨2, x.name, ⟨#[]⟩, ⟨#[]⟩⟩]
theorem turnsV_eq (x y : Option LeafI) : turnsK x y = turnsV (x.getD leaf0) (y.getD leaf0) x.isSome y.isSome := by
  cases x <;> cases y <;> rfl
theorem lit_turn (w : World) (g : Nat) (t : TurnI) (hg : g = w.heap.size) : Sl (w.alloc (.cells #[.int .i64 t.kind, .string t.name, .string t.from_, .string t.d] 58)) 4 (.slice (some ⟨g, 0, none⟩) 1 1) ([t].map TurnI.cells) := by
  subst hg
  exact Sl.of_flat (Blk.new w 58 _) ⟨[], rfl⟩ (turn_coded.sizes _) rfl (Nat.le_refl _) (by unfold maxLen; omega)

set_option maxRecDepth 100000 in
set_option maxHeartbeats 2000000 in
theorem dturns_c (w : World) (u v : Value) (a b : List LeafI) (it : Ver) (h : Sl w 5 u (a.map LeafI.cells)) (k : Sl w 5 v (b.map LeafI.cells)) : Calls Try.prog 59 #[u, v, it.val] w (RetQ (fun v' w' => Sl w' 4 v' ((turnsK (findK a it) (findK b it)).map TurnI.cells)) w) := by
  have HF : Hid (∀ W, Ext w W → Calls Try.prog 75 #[u, it.val] W (Ret (foundK (findK a it)) W)) := fun W hW => dfind_c W u a it (h.ext hW)
  have HG : Hid (∀ W, Ext w W → Calls Try.prog 75 #[v, it.val] W (Ret (foundK (findK b it)) W)) := fun W hW => dfind_c W v b it (k.ext hW)
  rw [turnsV_eq]
  unfold foundK LeafI.val at HF HG
  unfold Ver.val at HF HG ⊢
  clear h k
  generalize (findK a it).getD leaf0 = X at HF ⊢
  generalize (findK b it).getD leaf0 = Y at HG ⊢
  cases is : (findK b it).isSome with
  | false =>
    rw [is] at HG
    generalize (findK a it).isSome = was at HF ⊢
    clear is
    go_enter Try.func59, Try.ntmps59
    go_wp2_with (first
      | (go_at_call 75; refine (HG.out _ (HX1.out.alloc' _)).mono ?_; rintro e w2 ⟨rfl, hx2⟩; have h7 := (Blk.new w1 35 #[.string X.name, .string X.path, .int .i64 X.item.by_, .int .i64 X.item.n, .string X.d]).ext hx2; have x0 := h7.cell (i := 0) (v := .string X.name) rfl; have x4 := h7.cell (i := 4) (v := .string X.d) rfl; have l7 := h7.lt; have HX2 := hid ((HX1.out.alloc' _).trans hx2); clear hx2 h7 HG b0 b1 lb HX1)
      | (go_at_call 75; refine (HF.out _ (Ext.alloc _ _)).mono ?_; rintro e w1 ⟨rfl, hx1⟩; have hb := (Blk.new w 26 #[.int .i64 it.by_, .int .i64 it.n]).ext hx1; have b0 := hb.cell (i := 0) (v := .int .i64 it.by_) rfl; have b1 := hb.cell (i := 1) (v := .int .i64 it.n) rfl; have lb := hb.lt; have HX1 := hid ((Ext.alloc _ _).trans hx1); clear hx1 hb HF))
    go_ret
    exact ⟨_, rfl, lit_turn _ _ ⟨2, X.name, ⟨#[]⟩, ⟨#[]⟩⟩ (by simp), (HX2.out.alloc' _).alloc' _⟩
  | true =>
    rw [is] at HG
    cases was : (findK a it).isSome with
    | false =>
      rw [was] at HF
      clear is was
      go_enter Try.func59, Try.ntmps59
      go_wp2_with (first
        | (go_at_call 75; refine (HG.out _ (HX1.out.alloc' _)).mono ?_; rintro e w2 ⟨rfl, hx2⟩; have h7 := (Blk.new w1 35 #[.string X.name, .string X.path, .int .i64 X.item.by_, .int .i64 X.item.n, .string X.d]).ext hx2; have x0 := h7.cell (i := 0) (v := .string X.name) rfl; have x4 := h7.cell (i := 4) (v := .string X.d) rfl; have l7 := h7.lt; have HX2 := hid ((HX1.out.alloc' _).trans hx2); clear hx2 h7 HG b0 b1 lb HX1)
        | (go_at_call 75; refine (HF.out _ (Ext.alloc _ _)).mono ?_; rintro e w1 ⟨rfl, hx1⟩; have hb := (Blk.new w 26 #[.int .i64 it.by_, .int .i64 it.n]).ext hx1; have b0 := hb.cell (i := 0) (v := .int .i64 it.by_) rfl; have b1 := hb.cell (i := 1) (v := .int .i64 it.n) rfl; have lb := hb.lt; have HX1 := hid ((Ext.alloc _ _).trans hx1); clear hx1 hb HF))
      go_ret
      exact ⟨_, rfl, lit_turn _ _ ⟨1, Y.name, ⟨#[]⟩, Y.d⟩ (by simp), (HX2.out.alloc' _).alloc' _⟩
    | true =>
      rw [was] at HF
      clear is was
      by_cases hn : X.name = Y.name
      · have dn : (X.name.toList == Y.name.toList) = true := by rw [hn]; simp
        by_cases hd : X.d = Y.d
        · have dd : (X.d.toList == Y.d.toList) = true := by rw [hd]; simp
          have hT : turnsV X Y true true = [] := by simp [turnsV, hn, hd]
          rw [hT]
          clear hn hd hT
          go_enter Try.func59, Try.ntmps59
          go_wp2_with (first
            | (go_at_call 75; refine (HG.out _ (HX1.out.alloc' _)).mono ?_; rintro e w2 ⟨rfl, hx2⟩; have h7 := (Blk.new w1 35 #[.string X.name, .string X.path, .int .i64 X.item.by_, .int .i64 X.item.n, .string X.d]).ext hx2; have x0 := h7.cell (i := 0) (v := .string X.name) rfl; have x4 := h7.cell (i := 4) (v := .string X.d) rfl; have l7 := h7.lt; have HX2 := hid ((HX1.out.alloc' _).trans hx2); clear hx2 h7 HG b0 b1 lb HX1)
            | (go_at_call 75; refine (HF.out _ (Ext.alloc _ _)).mono ?_; rintro e w1 ⟨rfl, hx1⟩; have hb := (Blk.new w 26 #[.int .i64 it.by_, .int .i64 it.n]).ext hx1; have b0 := hb.cell (i := 0) (v := .int .i64 it.by_) rfl; have b1 := hb.cell (i := 1) (v := .int .i64 it.n) rfl; have lb := hb.lt; have HX1 := hid ((Ext.alloc _ _).trans hx1); clear hx1 hb HF))
          go_ret
          exact ⟨_, rfl, Sl.nil _ 4, HX2.out.alloc' _⟩
        · have dd : (X.d.toList == Y.d.toList) = false := by rw [beq_toList]; simp [hd]
          have hT : turnsV X Y true true = [⟨3, Y.name, ⟨#[]⟩, Y.d⟩] := by simp [turnsV, hn, hd]
          rw [hT]
          clear hn hd hT
          go_enter Try.func59, Try.ntmps59
          go_wp2_with (first
            | (at_builtin; have hE := HX2.out.alloc' (.cells #[.string Y.name, .string Y.path, .int .i64 Y.item.by_, .int .i64 Y.item.n, .string Y.d] 35); obtain ⟨v1, w4, hrun, ho, hk, _⟩ := app_one (P := Try.prog) (acc := []) turn_elem turn_coded (ownsRow_nil _ w.heap.size 58 4) hE.size ⟨3, Y.name, ⟨#[]⟩, Y.d⟩ (by simp) (by omega); simp only [TurnI.cells, World.size_alloc] at hrun; have HE4 := hid (hk.toExt hE (fun q hq => by cases hq)); have HO4 := hid ho; clear ho hk hE; refine wpList_app rfl (.tmp 58) (.tmp 64) _ _ rfl rfl rfl hrun ?_)
            | (go_at_call 75; refine (HG.out _ (HX1.out.alloc' _)).mono ?_; rintro e w2 ⟨rfl, hx2⟩; have h7 := (Blk.new w1 35 #[.string X.name, .string X.path, .int .i64 X.item.by_, .int .i64 X.item.n, .string X.d]).ext hx2; have x0 := h7.cell (i := 0) (v := .string X.name) rfl; have x4 := h7.cell (i := 4) (v := .string X.d) rfl; have l7 := h7.lt; have HX2 := hid ((HX1.out.alloc' _).trans hx2); clear hx2 h7 HG b0 b1 lb HX1)
            | (go_at_call 75; refine (HF.out _ (Ext.alloc _ _)).mono ?_; rintro e w1 ⟨rfl, hx1⟩; have hb := (Blk.new w 26 #[.int .i64 it.by_, .int .i64 it.n]).ext hx1; have b0 := hb.cell (i := 0) (v := .int .i64 it.by_) rfl; have b1 := hb.cell (i := 1) (v := .int .i64 it.n) rfl; have lb := hb.lt; have HX1 := hid ((Ext.alloc _ _).trans hx1); clear hx1 hb HF))
          go_ret
          exact ⟨_, rfl, sl_of_row (turn_coded.sizes _) (by simpa using HO4.out), HE4.out⟩
      · have dn : (X.name.toList == Y.name.toList) = false := by rw [beq_toList]; simp [hn]
        by_cases hd : X.d = Y.d
        · have dd : (X.d.toList == Y.d.toList) = true := by rw [hd]; simp
          have hT : turnsV X Y true true = [⟨4, Y.name, X.name, ⟨#[]⟩⟩] := by simp [turnsV, hn, hd]
          rw [hT]
          clear hn hd hT
          go_enter Try.func59, Try.ntmps59
          go_wp2_with (first
            | (at_builtin; have hE := HX2.out.alloc' (.cells #[.string Y.name, .string Y.path, .int .i64 Y.item.by_, .int .i64 Y.item.n, .string Y.d] 35); have h9 := Blk.new w2 35 #[.string Y.name, .string Y.path, .int .i64 Y.item.by_, .int .i64 Y.item.n, .string Y.d]; have ha := Ext.alloc w2 (.cells #[.string Y.name, .string Y.path, .int .i64 Y.item.by_, .int .i64 Y.item.n, .string Y.d] 35); obtain ⟨v1, w4, hrun, ho, hk, _⟩ := app_one (P := Try.prog) (acc := []) turn_elem turn_coded (ownsRow_nil _ w.heap.size 58 4) hE.size ⟨4, Y.name, X.name, ⟨#[]⟩⟩ (by simp) (by omega); simp only [TurnI.cells, World.size_alloc] at hrun; have hx4 := hk.toExt (Ext.refl _) (fun q hq => by cases hq); have g9 := h9.ext hx4; have y0 := g9.cell (i := 0) (v := .string Y.name) rfl; have y4 := g9.cell (i := 4) (v := .string Y.d) rfl; have l9 := g9.lt; have z4 := (ha.trans hx4).cell x4; have m7 := Nat.lt_of_lt_of_le l7 (ha.trans hx4).size; have HE4 := hid (hE.trans hx4); have HO4 := hid ho; clear ho hk hE h9 ha hx4 g9; refine wpList_app rfl (.tmp 45) (.tmp 51) _ _ rfl rfl rfl hrun ?_)
            | (go_at_call 75; refine (HG.out _ (HX1.out.alloc' _)).mono ?_; rintro e w2 ⟨rfl, hx2⟩; have h7 := (Blk.new w1 35 #[.string X.name, .string X.path, .int .i64 X.item.by_, .int .i64 X.item.n, .string X.d]).ext hx2; have x0 := h7.cell (i := 0) (v := .string X.name) rfl; have x4 := h7.cell (i := 4) (v := .string X.d) rfl; have l7 := h7.lt; have HX2 := hid ((HX1.out.alloc' _).trans hx2); clear hx2 h7 HG b0 b1 lb HX1)
            | (go_at_call 75; refine (HF.out _ (Ext.alloc _ _)).mono ?_; rintro e w1 ⟨rfl, hx1⟩; have hb := (Blk.new w 26 #[.int .i64 it.by_, .int .i64 it.n]).ext hx1; have b0 := hb.cell (i := 0) (v := .int .i64 it.by_) rfl; have b1 := hb.cell (i := 1) (v := .int .i64 it.n) rfl; have lb := hb.lt; have HX1 := hid ((Ext.alloc _ _).trans hx1); clear hx1 hb HF))
          go_ret
          exact ⟨_, rfl, sl_of_row (turn_coded.sizes _) (by simpa using HO4.out), HE4.out⟩
        · have dd : (X.d.toList == Y.d.toList) = false := by rw [beq_toList]; simp [hd]
          have hT : turnsV X Y true true = [⟨4, Y.name, X.name, ⟨#[]⟩⟩, ⟨3, Y.name, ⟨#[]⟩, Y.d⟩] := by simp [turnsV, hn, hd]
          rw [hT]
          clear hn hd hT
          go_enter Try.func59, Try.ntmps59
          go_wp2_with (first
            | (at_builtin; obtain ⟨v2, w5, hrun5, ho5, hk5, _⟩ := app_one (P := Try.prog) turn_elem turn_coded HO4.out HE4.out.size ⟨3, Y.name, ⟨#[]⟩, Y.d⟩ (by simp) (by omega); simp only [TurnI.cells] at hrun5; have HE5 := hid (hk5.toExt HE4.out (fun q hq => (row_block HO4.out q hq).1)); have HO5 := hid ho5; clear ho5 hk5 hrun HO4 HE4; refine wpList_app rfl (.tmp 58) (.tmp 64) _ _ rfl rfl rfl hrun5 ?_) | (at_builtin; have hE := HX2.out.alloc' (.cells #[.string Y.name, .string Y.path, .int .i64 Y.item.by_, .int .i64 Y.item.n, .string Y.d] 35); have h9 := Blk.new w2 35 #[.string Y.name, .string Y.path, .int .i64 Y.item.by_, .int .i64 Y.item.n, .string Y.d]; have ha := Ext.alloc w2 (.cells #[.string Y.name, .string Y.path, .int .i64 Y.item.by_, .int .i64 Y.item.n, .string Y.d] 35); obtain ⟨v1, w4, hrun, ho, hk, _⟩ := app_one (P := Try.prog) (acc := []) turn_elem turn_coded (ownsRow_nil _ w.heap.size 58 4) hE.size ⟨4, Y.name, X.name, ⟨#[]⟩⟩ (by simp) (by omega); simp only [TurnI.cells, World.size_alloc] at hrun; have hx4 := hk.toExt (Ext.refl _) (fun q hq => by cases hq); have g9 := h9.ext hx4; have y0 := g9.cell (i := 0) (v := .string Y.name) rfl; have y4 := g9.cell (i := 4) (v := .string Y.d) rfl; have l9 := g9.lt; have z4 := (ha.trans hx4).cell x4; have m7 := Nat.lt_of_lt_of_le l7 (ha.trans hx4).size; have HE4 := hid (hE.trans hx4); have HO4 := hid ho; clear ho hk hE h9 ha hx4 g9; refine wpList_app rfl (.tmp 45) (.tmp 51) _ _ rfl rfl rfl hrun ?_)
            | (go_at_call 75; refine (HG.out _ (HX1.out.alloc' _)).mono ?_; rintro e w2 ⟨rfl, hx2⟩; have h7 := (Blk.new w1 35 #[.string X.name, .string X.path, .int .i64 X.item.by_, .int .i64 X.item.n, .string X.d]).ext hx2; have x0 := h7.cell (i := 0) (v := .string X.name) rfl; have x4 := h7.cell (i := 4) (v := .string X.d) rfl; have l7 := h7.lt; have HX2 := hid ((HX1.out.alloc' _).trans hx2); clear hx2 h7 HG b0 b1 lb HX1)
            | (go_at_call 75; refine (HF.out _ (Ext.alloc _ _)).mono ?_; rintro e w1 ⟨rfl, hx1⟩; have hb := (Blk.new w 26 #[.int .i64 it.by_, .int .i64 it.n]).ext hx1; have b0 := hb.cell (i := 0) (v := .int .i64 it.by_) rfl; have b1 := hb.cell (i := 1) (v := .int .i64 it.n) rfl; have lb := hb.lt; have HX1 := hid ((Ext.alloc _ _).trans hx1); clear hx1 hb HF))
          go_ret
          exact ⟨_, rfl, sl_of_row (turn_coded.sizes _) (by simpa using HO5.out), HE5.out⟩
end Go.Proofs.Ytgkdiknmjgpgmaa
