/-
  Package diff: Right, find.
-/
import Derived.Test.YtgkdiknmjgpgmaaDfD
import Derived.Test.YtgkdiknmjgpgmaaRes
namespace Go.Proofs.Ytgkdiknmjgpgmaa
set_option linter.unusedSimpArgs false
set_option linter.unusedVariables false
open Go.RowKit Go.Sort

set_option maxRecDepth 100000 in
set_option maxHeartbeats 1000000 in
theorem find1_c (w : World) (q : Nat) (it : Ver) (x : LeafI) (h : Blk w q 26 #[.int .i64 it.by_, .int .i64 it.n]) : Calls Try.prog 96 #[x.val, .pointer (some ⟨q, 0, none⟩)] w (Ret (.bool (eq2 x.item.by_ x.item.n it.by_ it.n)) w) := by
  have h0 := h.cell (i := 0) (v := .int .i64 it.by_) rfl
  have h1 := h.cell (i := 1) (v := .int .i64 it.n) rfl
  have lq := h.lt
  have hne : ¬ w.heap.size = q := by omega
  clear h
  unfold LeafI.val
  go_enter Try.func96, Try.ntmps96
  go_wp2_with fail
  go_ret
  exact ⟨rfl, Ext.alloc _ _⟩
set_option maxRecDepth 100000 in
set_option maxHeartbeats 1000000 in
theorem dindex_c (w : World) (v : Value) (l : List LeafI) (q : Nat) (it : Ver) (h : Sl w 5 v (l.map LeafI.cells)) (hq : Blk w q 26 #[.int .i64 it.by_, .int .i64 it.n]) :
    Calls Try.prog 95 #[v, .func (.func 96) #[] #[.pointer (some ⟨q, 0, none⟩)]] w (Ret (.int .i64 (itemZ l it)) w) := by
  have HP := fun W (hW : Ext w W) (x : LeafI) => hid (find1_c W q it x (hq.ext hW))
  obtain ⟨A, c, rfl, h1, h2, h3⟩ := sl_get h
  unfold maxLen at h2
  have hr := placeK_le it l
  have hlow := placeK_ne it l
  have hat := placeK_at it l
  have HZ : Hid (itemZ l it = if placeK it l < l.length then (placeK it l : Int) else -1) := rfl
  clear h hq
  generalize placeK it l = r at hr hlow hat HZ
  generalize itemZ l it = z at HZ ⊢
  go_enter Try.func95, Try.ntmps95
  go_wp2_with fail
  go_loopw [8] (fun i wr => ∃ k : Nat, k ≤ r ∧ i = .int .i64 k ∧ Ext w wr) (fun i _ => l.length - (intOf i).toNat)
  case atStart => exact ⟨0, by omega, rfl, Ext.refl _⟩
  case round =>
    obtain ⟨k, hk, rfl, hE⟩ := hrel
    have HE := hid hE
    by_cases hlt : k < l.length
    · obtain ⟨b, o, rfl, lb, hcell⟩ := h3 (by omega)
      have c0 := hE.cell (hcell k hlt 0 _ rfl)
      have c1 := hE.cell (hcell k hlt 1 _ rfl)
      have c2 := hE.cell (hcell k hlt 2 _ rfl)
      have c3 := hE.cell (hcell k hlt 3 _ rfl)
      have c4 := hE.cell (hcell k hlt 4 _ rfl)
      rw [Nat.add_zero] at c0
      have lbr := Nat.lt_of_lt_of_le lb hE.size
      have HPk := fun W (hW : Ext wr W) => HP W (hE.trans hW) l[k]
      by_cases hkr : k < r
      · have hs := eq2_false (hlow k hlt hkr)
        clear hcell h3 hE HP hlow hat HZ
        generalize l[k] = x at c0 c1 c2 c3 c4 hs HPk
        unfold LeafI.val at HPk
        rw [hs] at HPk
        clear hs
        go_wp2_with fail
        refine (HPk _ (Ext.refl _)).out.mono ?_
        rintro e w' ⟨rfl, hx⟩
        go_wp2_with fail
        go_roundw
        case rel => exact ⟨k + 1, by omega, by go_num, HE.out.trans hx⟩
        case measure => simp [intOf]; omega
      · obtain rfl : k = r := by omega
        have hs := eq2_true (hat hlt)
        rw [if_pos hlt] at HZ
        clear hcell h3 hE HP hlow hat
        generalize l[k] = x at c0 c1 c2 c3 c4 hs HPk
        unfold LeafI.val at HPk
        rw [hs] at HPk
        clear hs
        go_wp2_with fail
        refine (HPk _ (Ext.refl _)).out.mono ?_
        rintro e w' ⟨rfl, hx⟩
        go_wp2_with fail
        go_ret
        exact ⟨by rw [HZ.out]; rfl, HE.out.trans hx⟩
    · obtain rfl : k = r := by omega
      rw [if_neg hlt] at HZ
      clear hE h3 HP hlow hat
      go_wp2_with fail
      go_ret
      exact ⟨by rw [HZ.out]; rfl, HE.out⟩

def foundK (x : Option LeafI) : Value := .tuple #[(x.getD leaf0).val, .bool x.isSome]
theorem foundK_some (x : LeafI) : foundK (some x) = .tuple #[.agg #[.string x.name, .string x.path, .int .i64 x.item.by_, .int .i64 x.item.n, .string x.d], .bool true] := rfl
set_option maxRecDepth 100000 in
set_option maxHeartbeats 1000000 in
theorem dfind_c (w : World) (v : Value) (l : List LeafI) (it : Ver) (h : Sl w 5 v (l.map LeafI.cells)) : Calls Try.prog 75 #[v, it.val] w (Ret (foundK (findK l it)) w) := by
  have HI := fun W q (hW : Ext w W) (hq : Blk W q 26 #[.int .i64 it.by_, .int .i64 it.n]) => hid (dindex_c W v l q it (h.ext hW) hq)
  obtain ⟨A, c, rfl, h1, h2, h3⟩ := sl_get h
  unfold maxLen at h2
  clear h
  unfold Ver.val
  by_cases hlt : placeK it l < l.length
  · have hz : itemZ l it = (placeK it l : Int) := if_pos hlt
    have hf : findK l it = some l[placeK it l] := List.getElem?_eq_getElem hlt
    rw [hf, foundK_some]
    obtain ⟨b, o, rfl, lb, hcell⟩ := h3 (by omega)
    have c0 := hcell _ hlt 0 _ rfl
    have c1 := hcell _ hlt 1 _ rfl
    have c2 := hcell _ hlt 2 _ rfl
    have c3 := hcell _ hlt 3 _ rfl
    have c4 := hcell _ hlt 4 _ rfl
    rw [Nat.add_zero] at c0
    rw [hz] at HI
    clear hcell h3 hz hf
    generalize l[placeK it l] = x at c0 c1 c2 c3 c4 ⊢
    generalize placeK it l = r at c0 c1 c2 c3 c4 HI hlt
    go_enter Try.func75, Try.ntmps75
    go_wp2_with fail
    have e0 : Ext w ((w.alloc (.cells #[.int .i64 it.by_, .int .i64 it.n] 26)).alloc (.cells #[.string ⟨#[]⟩, .string ⟨#[]⟩, .int .i64 0, .int .i64 0, .string ⟨#[]⟩] 35)) := (Ext.alloc _ _).alloc' _
    have hb := (Blk.new w 26 #[.int .i64 it.by_, .int .i64 it.n]).alloc (.cells #[.string ⟨#[]⟩, .string ⟨#[]⟩, .int .i64 0, .int .i64 0, .string ⟨#[]⟩] 35)
    have hr := Blk.new (w.alloc (.cells #[.int .i64 it.by_, .int .i64 it.n] 26)) 35 #[.string ⟨#[]⟩, .string ⟨#[]⟩, .int .i64 0, .int .i64 0, .string ⟨#[]⟩]
    rw [World.size_alloc] at hr
    generalize (w.alloc (.cells #[.int .i64 it.by_, .int .i64 it.n] 26)).alloc (.cells #[.string ⟨#[]⟩, .string ⟨#[]⟩, .int .i64 0, .int .i64 0, .string ⟨#[]⟩] 35) = W0 at e0 hb hr ⊢
    obtain ⟨g, hg⟩ : ∃ g, g = w.heap.size + 1 := ⟨_, rfl⟩
    have n4 : w.heap.size ≤ g := by omega
    rw [← hg] at hr ⊢
    clear hg
    refine (HI _ _ e0 hb).out.mono ?_
    rintro e w' ⟨rfl, hx⟩
    have d0 := e0.trans hx
    have k0 := d0.cell c0
    have k1 := d0.cell c1
    have k2 := d0.cell c2
    have k3 := d0.cell c3
    have k4 := d0.cell c4
    have lb' := Nat.lt_of_lt_of_le lb d0.size
    have hr' := hr.ext hx
    have z0 := hr'.frozen 0
    have z1 := hr'.frozen 1
    have z2 := hr'.frozen 2
    have z3 := hr'.frozen 3
    have z4 := hr'.frozen 4
    have r0 := hr'.cell (i := 0) (v := .string ⟨#[]⟩) rfl
    have r1 := hr'.cell (i := 1) (v := .string ⟨#[]⟩) rfl
    have r2 := hr'.cell (i := 2) (v := .int .i64 0) rfl
    have r3 := hr'.cell (i := 3) (v := .int .i64 0) rfl
    have r4 := hr'.cell (i := 4) (v := .string ⟨#[]⟩) rfl
    have lg := hr'.lt
    have HR := hid hr'
    have HE := hid (e0.trans hx)
    clear hr'
    clear hx e0 d0 hr hb c0 c1 c2 c3 c4 lb
    go_wp2_with fail
    have HF : Hid (Blk (((((w'.setCell ⟨g, 0, none⟩ (.string x.name)).setCell ⟨g, 1, none⟩ (.string x.path)).setCell ⟨g, 2, none⟩ (.int .i64 x.item.by_)).setCell ⟨g, 3, none⟩ (.int .i64 x.item.n)).setCell ⟨g, 4, none⟩ (.string x.d)) g 35 #[.string x.name, .string x.path, .int .i64 x.item.by_, .int .i64 x.item.n, .string x.d]) := ((((HR.out.set 0 (.string x.name)).set 1 (.string x.path)).set 2 (.int .i64 x.item.by_)).set 3 (.int .i64 x.item.n)).set 4 (.string x.d)
    refine bodyPost_ret (results_cell_row_tmp rfl _ _ g 35 _ (0, 0) _ rfl HF.out Try.underlying35 rfl (show (Try.prog.info? 35).map (·.size) = some 5 by kernel_rfl)) rfl ⟨rfl, ?_⟩
    exact ((((HE.out.setCell' (p := ⟨g, 0, none⟩) n4 _).setCell' (p := ⟨g, 1, none⟩) n4 _).setCell' (p := ⟨g, 2, none⟩) n4 _).setCell' (p := ⟨g, 3, none⟩) n4 _).setCell' (p := ⟨g, 4, none⟩) n4 _
  · have hz : itemZ l it = -1 := if_neg hlt
    have hf : findK l it = none := List.getElem?_eq_none (by omega)
    rw [hf]
    unfold foundK leaf0 LeafI.val
    simp only [Option.getD_none, Option.isSome_none]
    rw [hz] at HI
    clear h3 hz hf hlt
    go_enter Try.func75, Try.ntmps75
    go_wp2_with fail
    have e0 : Ext w ((w.alloc (.cells #[.int .i64 it.by_, .int .i64 it.n] 26)).alloc (.cells #[.string ⟨#[]⟩, .string ⟨#[]⟩, .int .i64 0, .int .i64 0, .string ⟨#[]⟩] 35)) := (Ext.alloc _ _).alloc' _
    have hb := (Blk.new w 26 #[.int .i64 it.by_, .int .i64 it.n]).alloc (.cells #[.string ⟨#[]⟩, .string ⟨#[]⟩, .int .i64 0, .int .i64 0, .string ⟨#[]⟩] 35)
    have hr := Blk.new (w.alloc (.cells #[.int .i64 it.by_, .int .i64 it.n] 26)) 35 #[.string ⟨#[]⟩, .string ⟨#[]⟩, .int .i64 0, .int .i64 0, .string ⟨#[]⟩]
    rw [World.size_alloc] at hr
    generalize (w.alloc (.cells #[.int .i64 it.by_, .int .i64 it.n] 26)).alloc (.cells #[.string ⟨#[]⟩, .string ⟨#[]⟩, .int .i64 0, .int .i64 0, .string ⟨#[]⟩] 35) = W0 at e0 hb hr ⊢
    obtain ⟨g, hg⟩ : ∃ g, g = w.heap.size + 1 := ⟨_, rfl⟩
    have n4 : w.heap.size ≤ g := by omega
    rw [← hg] at hr ⊢
    clear hg
    refine (HI _ _ e0 hb).out.mono ?_
    rintro e w' ⟨rfl, hx⟩
    have hr' := hr.ext hx
    have z0 := hr'.frozen 0
    have z1 := hr'.frozen 1
    have z2 := hr'.frozen 2
    have z3 := hr'.frozen 3
    have z4 := hr'.frozen 4
    have r0 := hr'.cell (i := 0) (v := .string ⟨#[]⟩) rfl
    have r1 := hr'.cell (i := 1) (v := .string ⟨#[]⟩) rfl
    have r2 := hr'.cell (i := 2) (v := .int .i64 0) rfl
    have r3 := hr'.cell (i := 3) (v := .int .i64 0) rfl
    have r4 := hr'.cell (i := 4) (v := .string ⟨#[]⟩) rfl
    have lg := hr'.lt
    have HR := hid hr'
    have HE := hid (e0.trans hx)
    clear hr'
    clear hx e0 hr hb
    go_wp2_with fail
    have HF : Hid (Blk (((((w'.setCell ⟨g, 0, none⟩ (.string (⟨#[]⟩ : ByteArray))).setCell ⟨g, 1, none⟩ (.string (⟨#[]⟩ : ByteArray))).setCell ⟨g, 2, none⟩ (.int .i64 0)).setCell ⟨g, 3, none⟩ (.int .i64 0)).setCell ⟨g, 4, none⟩ (.string (⟨#[]⟩ : ByteArray))) g 35 #[.string (⟨#[]⟩ : ByteArray), .string (⟨#[]⟩ : ByteArray), .int .i64 0, .int .i64 0, .string (⟨#[]⟩ : ByteArray)]) := ((((HR.out.set 0 (.string (⟨#[]⟩ : ByteArray))).set 1 (.string (⟨#[]⟩ : ByteArray))).set 2 (.int .i64 0)).set 3 (.int .i64 0)).set 4 (.string (⟨#[]⟩ : ByteArray))
    refine bodyPost_ret (results_cell_row_tmp rfl _ _ g 35 _ (0, 0) _ rfl HF.out Try.underlying35 rfl (show (Try.prog.info? 35).map (·.size) = some 5 by kernel_rfl)) rfl ⟨rfl, ?_⟩
    exact ((((HE.out.setCell' (p := ⟨g, 0, none⟩) n4 _).setCell' (p := ⟨g, 1, none⟩) n4 _).setCell' (p := ⟨g, 2, none⟩) n4 _).setCell' (p := ⟨g, 3, none⟩) n4 _).setCell' (p := ⟨g, 4, none⟩) n4 _
end Go.Proofs.Ytgkdiknmjgpgmaa
