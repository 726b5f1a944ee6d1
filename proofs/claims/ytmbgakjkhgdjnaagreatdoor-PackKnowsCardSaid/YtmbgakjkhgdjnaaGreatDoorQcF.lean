/-
  Light filters, for seats without Match.
  The document's cut of filters and knowledge (Sane).
-/
import Derived.Test.YtmbgakjkhgdjnaaGreatDoorFpZk
import Derived.Test.YtmbgakjkhgdjnaaGreatDoorQcE
import Derived.Test.YtmbgakjkhgdjnaaGreatDoorQdJ
namespace Go.Proofs.YtmbgakjkhgdjnaaGreatDoor
set_option linter.unusedSimpArgs false
set_option linter.unusedVariables false
open Go.RowKit

def lightF (f : List ClauseI) : Bool := f.all (fun c => decide (c.pre.size ≤ 100)) && decide (f.length ≤ 24)
theorem lightF_iff {f : List ClauseI} : lightF f = true ↔ LightF f ∧ f.length ≤ 24 := by
  unfold lightF LightF
  rw [Bool.and_eq_true, List.all_eq_true, decide_eq_true_eq]
  exact and_congr (forall_congr' fun c => forall_congr' fun _ => decide_eq_true_iff) Iff.rfl
theorem lightF_no {f : List ClauseI} {k : Nat} (h : k < f.length) (ht : ¬ f[k].pre.size ≤ 100) : lightF f = false := by
  rw [Bool.eq_false_iff, Ne, lightF_iff]
  rintro ⟨h1, _⟩
  exact ht (h1 _ (List.getElem_mem h))
set_option maxRecDepth 100000 in
set_option maxHeartbeats 1000000 in
theorem lightF_c (w : World) (v : Value) (f : List ClauseI) (h : Sl w 3 v (f.map ClauseI.cells)) : Calls Tryz.prog 30 #[v] w (Ret (.bool (lightF f)) w) := by
  obtain ⟨A, c, rfl, h1, h2, h3⟩ := sl_get h
  unfold maxLen at h2
  clear h
  go_enter Tryz.func30, Tryz.ntmps30
  go_wp2_with fail
  go_loopw [3] (fun i wr => ∃ k : Nat, k ≤ f.length ∧ i = .int .i64 k ∧ Ext w wr ∧ Hid (∀ j (hj : j < f.length), j < k → f[j].pre.size ≤ 100)) (fun i _ => f.length - (intOf i).toNat)
  case atStart => exact ⟨0, by omega, rfl, Ext.refl _, fun j _ hj => by omega⟩
  case round =>
    obtain ⟨k, hk, rfl, hE, hno⟩ := hrel
    have HE := hid hE
    by_cases hlt : k < f.length
    · obtain ⟨b, o, rfl, lb, hcell⟩ := h3 (by omega)
      have c0 := hE.cell (hcell k hlt 0 _ rfl)
      have c1 := hE.cell (hcell k hlt 1 _ rfl)
      have c2 := hE.cell (hcell k hlt 2 _ rfl)
      rw [Nat.add_zero] at c0
      have lbr := Nat.lt_of_lt_of_le lb hE.size
      have HF : Hid (¬ f[k].pre.size ≤ 100 → lightF f = false) := fun e => lightF_no hlt e
      have HNx : Hid (f[k].pre.size ≤ 100 → ∀ j (hj : j < f.length), j < k + 1 → f[j].pre.size ≤ 100) := fun e j hj hjk => by
        by_cases hjk' : j = k
        · subst hjk'; exact e
        · exact hno.out j hj (by omega)
      clear hcell h3 hE hno
      generalize f[k] = x at *
      by_cases hp : x.pre.size ≤ 100
      · have d0 : decide ((100 : Int) < x.pre.size) = false := by simp; omega
        have HNx := hid (HNx.out hp)
        clear HF hp
        go_wp2_with fail
        go_roundw
        case rel => exact ⟨k + 1, by omega, by go_num, HE.out, HNx.out⟩
        case measure => simp [intOf]; omega
      · have d0 : decide ((100 : Int) < x.pre.size) = true := by simp; omega
        have HF := hid (HF.out hp)
        clear HNx hp
        go_wp2_with fail
        go_ret
        exact ⟨by rw [HF.out]; rfl, HE.out⟩
    · obtain rfl : k = f.length := by omega
      have hall : LightF f := fun c hc => by
        obtain ⟨j, hj, rfl⟩ := List.getElem_of_mem hc
        exact hno.out j hj hj
      have HB : Hid (lightF f = decide (f.length ≤ 24)) := by
        unfold Hid
        rw [Bool.eq_iff_iff, lightF_iff, decide_eq_true_eq]
        exact ⟨fun h => h.2, fun h => ⟨hall, h⟩⟩
      clear hE h3 hno hall
      by_cases hl : f.length ≤ 24
      · have d1 : decide ((f.length : Int) ≤ 24) = true := by simp; omega
        have HB : Hid (lightF f = true) := by rw [HB.out]; exact decide_eq_true hl
        clear hl
        go_wp2_with fail
        go_ret
        exact ⟨by rw [HB.out]; rfl, HE.out⟩
      · have d1 : decide ((f.length : Int) ≤ 24) = false := by simp; omega
        have HB : Hid (lightF f = false) := by rw [HB.out]; exact decide_eq_false hl
        clear hl
        go_wp2_with fail
        go_ret
        exact ⟨by rw [HB.out]; rfl, HE.out⟩

end Go.Proofs.YtmbgakjkhgdjnaaGreatDoor
namespace Go.Proofs.YtmbgakjkhgdjnaaGreatDoor
set_option linter.unusedSimpArgs false
set_option linter.unusedVariables false
open Go.RowKit

def saneF (f : List ClauseI) : List ClauseI := f.filter rightC
theorem saneF_take {f : List ClauseI} {k : Nat} (h : k < f.length) : saneF (f.take (k + 1)) = if rightC f[k] then saneF (f.take k) ++ [f[k]] else saneF (f.take k) := by
  unfold saneF
  rw [List.take_succ_eq_append_getElem h, List.filter_append, List.filter_cons, List.filter_nil]
  split <;> simp
theorem saneF_len (f : List ClauseI) (k : Nat) : (saneF (f.take k)).length ≤ k := by
  have h1 := List.length_filter_le rightC (f.take k)
  rw [List.length_take] at h1
  unfold saneF
  omega
set_option maxRecDepth 100000 in
set_option maxHeartbeats 4000000 in
theorem sane_c (w : World) (v : Value) (l : List ClauseI) (h : Sl w 3 v (l.map ClauseI.cells)) (hl : l.length ≤ 5000) (hs : LightF l) : Calls Tryz.prog 32 #[v] w (RetQ (fun u W => ∃ sv : SlV, u = .slice sv.a sv.n sv.c ∧ RowT W 130 3 sv (saneF l).length ((saneF l).map ClauseI.cells).flatten) w) := by
  obtain ⟨A, c, rfl, h1, h2, h3⟩ := sl_get h
  unfold maxLen at h2
  have HSz := hid hs
  clear h hs
  go_enter Tryz.func32, Tryz.ntmps32
  go_wp2_with fail
  go_loopw [3, 4] (fun v i wr => ∃ (k : Nat) (ov : Value), ov = v ∧ k ≤ l.length ∧ i = .int .i64 k ∧ Ext w wr ∧ ((saneF (l.take k)).length = 0 → v = .slice none 0 0) ∧ wr.ownsRow w.heap.size 130 3 v (saneF (l.take k)).length ((saneF (l.take k)).map ClauseI.cells).flatten) (fun _ i _ => l.length - (intOf i).toNat)
  case atStart => exact ⟨0, _, rfl, by omega, rfl, Ext.refl _, (fun _ => rfl), ownsRow_nil _ _ _ _⟩
  case round =>
    obtain ⟨k, v, rfl, hk, rfl, hE, hz, hO⟩ := hrel
    have HE := hid hE
    have HO := hid hO
    have HZ := hid hz
    by_cases hlt : k < l.length
    · obtain ⟨b', o, rfl, lb, hcell⟩ := h3 (by omega)
      have c0 := hE.cell (hcell k hlt 0 _ rfl)
      have c1 := hE.cell (hcell k hlt 1 _ rfl)
      have c2 := hE.cell (hcell k hlt 2 _ rfl)
      rw [Nat.add_zero] at c0
      have lbr := Nat.lt_of_lt_of_le lb hE.size
      have HM := hid (saneF_take hlt)
      have hln := saneF_len l k
      have hsz := HSz.out _ (List.getElem_mem hlt)
      clear hcell h3 hE hz hO
      generalize saneF (l.take k) = acc at HO HZ HM hln
      generalize l[k] = x at c0 c1 c2 HM hsz
      have HC := fun W => hid (rrightC_c W x (by omega))
      unfold ClauseI.val at HC
      cases hc : rightC x with
      | false =>
        rw [hc] at HC HM
        rw [if_neg Bool.false_ne_true] at HM
        clear hc
        go_wp2_with (go_at_call 87; refine (HC _).out.mono ?_; rintro e w5 ⟨rfl, hx5⟩; have HX5 := hid hx5; clear hx5)
        go_roundw
        case rel => exact ⟨k + 1, _, rfl, by omega, by go_num, HE.out.trans HX5.out, (by rw [HM.out]; exact HZ.out), by rw [HM.out]; exact ownsRow_ext HO.out HX5.out⟩
        case measure => simp [intOf]; omega
      | true =>
        rw [hc] at HC HM
        rw [if_pos rfl] at HM
        clear hc
        go_wp2_with (first
          | (at_builtin; obtain ⟨v', w6, hrun6, ho6, hk6, _⟩ := app_one (P := Tryz.prog) cl_elem clause_coded (ownsRow_ext HO.out HX5.out) (Nat.le_trans HE.out.size HX5.out.size) x (by omega) (by omega); simp only [ClauseI.cells] at hrun6; have HE6 := hid (hk6.toExt (HE.out.trans HX5.out) (fun q hq => (row_block HO.out q hq).1)); have HO6 := hid ho6; clear ho6 hk6; refine wpList_app rfl (.tmp 16) (.tmp 21) _ _ rfl rfl rfl hrun6 ?_)
          | (go_at_call 87; refine (HC _).out.mono ?_; rintro e w5 ⟨rfl, hx5⟩; have HX5 := hid hx5; have d0 := hx5.cell c0; have d1 := hx5.cell c1; have d2 := hx5.cell c2; have dl := Nat.lt_of_lt_of_le lbr hx5.size; clear hx5))
        go_roundw
        case rel => exact ⟨k + 1, _, rfl, by omega, by go_num, HE6.out, (fun h => by rw [HM.out] at h; simp at h), by rw [HM.out]; exact HO6.out⟩
        case measure => simp [intOf]; omega
    · obtain rfl : k = l.length := by omega
      rw [List.take_length] at hO hz
      obtain ⟨sv, rfl⟩ := slV_of hO
      have HR := hid (ownsRow_mono hO (Nat.zero_le _))
      unfold SlV.val
      clear hE h3 hz hO HO HZ
      go_wp2_with fail
      go_ret
      exact ⟨_, rfl, ⟨sv, rfl, HR.out⟩, HE.out⟩
theorem low_c (a b : Int) (w : World) : Calls Tryz.prog 31 #[.int .i64 a, .int .i64 b] w (Ret (.int .i64 (min a b)) w) := by
  by_cases h : a < b
  · have d0 : decide (a < b) = true := decide_eq_true h
    have e : min a b = a := by omega
    rw [e]
    clear h e
    go_enter Tryz.func31, Tryz.ntmps31
    go_wp2_with fail
    go_ret
    exact ⟨rfl, Ext.refl _⟩
  · have d0 : decide (a < b) = false := decide_eq_false h
    have e : min a b = b := by omega
    rw [e]
    clear h e
    go_enter Tryz.func31, Tryz.ntmps31
    go_wp2_with fail
    go_ret
    exact ⟨rfl, Ext.refl _⟩
theorem sl_cutK {w : World} {sz n c k : Nat} {A : Option Addr} {xs : List (List Value)} (h : Sl w sz (.slice A n c) xs) (hk : k ≤ n) : Sl w sz (.slice A k c) (xs.take k) := by
  obtain ⟨A', c', hv, h1, h2, h3⟩ := h
  injection hv with hA hn hc
  subst hA hn hc
  refine ⟨A, c, by rw [List.length_take, Nat.min_eq_left hk], by rw [List.length_take]; omega, h2, fun hp => ?_⟩
  rw [List.length_take] at hp
  obtain ⟨b, o, hb, hlt, hcell⟩ := h3 (by omega)
  refine ⟨b, o, hb, hlt, fun i x j u hx hu => ?_⟩
  rw [List.getElem?_take] at hx
  split at hx
  · exact hcell i x j u hx hu
  · cases hx
/-- The document's cut of a whole claim, and of knowledge. -/
def saneFrag (x : FragI) : FragI := ⟨saneF (if lightF x.f then x.f else []), x.v, x.n.take 12⟩
def saneK (k : KnowI) : KnowI := ⟨(k.fs.take 6).map saneFrag, k.ks.take 12⟩
/-- A whole claim's cells: the filter's row typed, the items' row old. -/
def FragS (w0 w : World) (c : FragC) (x : FragI) : Prop := c.v = x.v ∧ RowT w 130 3 c.f x.f.length (x.f.map ClauseI.cells).flatten ∧ Sl w0 2 c.n.val (x.n.map Ver.cells)
theorem FragS.at {w0 w : World} {c : FragC} {x : FragI} (h : FragS w0 w c x) (he : Ext w0 w) : FragAt w c x :=
  ⟨h.1, sl_of_row (xs := x.f.map ClauseI.cells) (clause_coded.sizes _) (by rw [List.length_map]; exact h.2.1), h.2.2.ext he⟩
theorem FragS.ext {w0 w w' : World} {c : FragC} {x : FragI} (h : FragS w0 w c x) (he : Ext w w') : FragS w0 w' c x := ⟨h.1, ownsRow_ext h.2.1 he, h.2.2⟩
theorem FragS.keepBlk {w0 w w' : World} {c : FragC} {x : FragI} {q : Nat} {t : TypeId} {cs : Array Value} (h : FragS w0 w c x) (hb : Blk w q t cs) (h1 : 130 ≠ t) (hk : Keep (fun g => g = q) w w') : FragS w0 w' c x :=
  ⟨h.1, ownsRow_keep h.2.1 hk (fun g hg hq => row_apart h.2.1 hb h1 (by rw [← hq]; exact hg)), h.2.2⟩
theorem FragS.keepRow {w0 w w' : World} {c : FragC} {x : FragI} {B sz n : Nat} {t : TypeId} {v : Value} {xs : List Value} (h : FragS w0 w c x) (hr : w.ownsRow B t sz v n xs) (h1 : 130 ≠ t) (hk : Keep (fun g => v.ownBlock = some g) w w') : FragS w0 w' c x :=
  ⟨h.1, ownsRow_keep h.2.1 hk (fun g hg hq => rows_apart h.2.1 hr h1 g hg hq), h.2.2⟩
theorem gives_oneF {o : Oper} {a : Act} {x : Operand} {X : Array Value} {W : World} (ho : o.op = .buildSlice 22 1 #[(0, x)]) (hx : a.eval x = .agg X) (hX : X.size = 67) : Gives Tryz.prog (fun v w' => v = .slice (some ⟨W.heap.size, 0, none⟩) 1 1 ∧ w' = W.alloc (.cells X 79)) ((execOp a.eval o).run Tryz.prog W) := by
  have := build_frag W X hX
  simp [execOp, ho, hx, Gives, this, Result.andThen]
theorem row_one {w : World} {g : Nat} {X : Array Value} (h : Blk w g 79 X) (hX : X.size = 67) : w.ownsRow 0 79 67 (.slice (some ⟨g, 0, none⟩) 1 1) 1 X.toList :=
  ⟨by rw [Array.length_toList, hX], .inr ⟨g, 1, X, rfl, Nat.zero_le _, h, Nat.le_refl _, by unfold maxLen; omega, by rw [hX], by rw [List.take_of_length_le]; rw [Array.length_toList, hX]; omega⟩⟩
attribute [-simp] Tryz.isAgg44 Tryz.isAgg79 Tryz.sizeOf79
theorem frags_ofS {w0 W : World} {v : Value} {zs : List (FragC × FragI)} {B : Nat} (hE : Ext w0 W) (hu : W.ownsRow B 79 67 v zs.length (zs.map FragP.list).flatten) (hl : ∀ z ∈ zs, FragS w0 W z.1 z.2) : FragsAt W v (zs.map (·.2)) := by
  refine ⟨zs.map (·.1), by simp, fun i c x h1 h2 => ?_, ?_⟩
  · rw [List.getElem?_map] at h1 h2
    obtain ⟨z, hz, rfl⟩ := Option.map_eq_some_iff.1 h1
    rw [hz] at h2
    injection h2 with h2
    subst h2
    exact (hl z (List.mem_of_getElem? hz)).at hE
  · have e : (zs.map (·.1)).map FragC.list = zs.map FragP.list := by rw [List.map_map]; rfl
    rw [e]
    exact sl_of_row (xs := zs.map FragP.list) (fragP_coded.sizes _) (by rw [List.length_map]; exact hu)
set_option maxRecDepth 100000 in
set_option maxHeartbeats 8000000 in
theorem sane15_c (wB w : World) (ua va : Value) (a : KnowI) (ha : KnowAt wB ua va a) (hB : Ext wB w) : Calls Tryz.prog 8 #[.agg #[ua, va]] w (RetQ (fun y W => ∃ u v : SlV, y = .agg #[.slice u.a u.n u.c, .slice v.a v.n v.c] ∧ KnowAt W u.val v.val (saneK a) ∧ ∀ q cs W', wB.heap.size ≤ q → Blk W q 25 cs → Keep (fun g => g = q) W W' → KnowAt W' u.val v.val (saneK a)) w) := by
  have HBs := hid hB
  obtain ⟨⟨cs, hcl, hca, hcs⟩, hak⟩ := ha
  obtain ⟨A, c1, rfl, h1, h2, h3⟩ := sl_get hcs
  obtain ⟨C, c3, rfl, p1, p2, p3⟩ := sl_get hak
  obtain ⟨fa, ia⟩ := a
  unfold maxLen at h2 p2
  dsimp only at *
  have HAk := hid hak
  have HCL := hid hcl
  have H3 := hid h3
  have HP0 := hid (((Blk.new w 25 #[.slice A cs.length c1, .slice C ia.length c3]).alloc (.cells #[.slice none 0 0, .slice none 0 0] 25)).alloc (.cells #[.slice none 0 0, .slice none 0 0] 25))
  have HR0 := hid ((Blk.new (w.alloc (.cells #[.slice A cs.length c1, .slice C ia.length c3] 25)) 25 #[.slice none 0 0, .slice none 0 0]).alloc (.cells #[.slice none 0 0, .slice none 0 0] 25))
  have HO0 := hid (Blk.new ((w.alloc (.cells #[.slice A cs.length c1, .slice C ia.length c3] 25)).alloc (.cells #[.slice none 0 0, .slice none 0 0] 25)) 25 #[.slice none 0 0, .slice none 0 0])
  simp only [World.size_alloc] at HR0 HO0
  have HE0 := hid (((Ext.alloc w (.cells #[.slice A cs.length c1, .slice C ia.length c3] 25)).alloc' (.cells #[.slice none 0 0, .slice none 0 0] 25)).alloc' (.cells #[.slice none 0 0, .slice none 0 0] 25))
  clear hcs hak h3 p3 hcl
  go_enter Tryz.func8, Tryz.ntmps8
  go_wp2_with fail
  generalize ((w.alloc (.cells #[.slice A cs.length c1, .slice C ia.length c3] 25)).alloc (.cells #[.slice none 0 0, .slice none 0 0] 25)).alloc (.cells #[.slice none 0 0, .slice none 0 0] 25) = w0 at HP0 HR0 HO0 HE0 ⊢
  obtain ⟨gP, hgP⟩ : ∃ g, w.heap.size = g := ⟨_, rfl⟩
  obtain ⟨gR, hgR⟩ : ∃ g, w.heap.size + 1 = g := ⟨_, rfl⟩
  obtain ⟨gO, hgO⟩ : ∃ g, w.heap.size + 1 + 1 = g := ⟨_, rfl⟩
  have HG9 : Hid (w.heap.size ≤ gP ∧ w.heap.size ≤ gR ∧ w.heap.size ≤ gO ∧ gP ≠ gO ∧ gR ≠ gO) := by unfold Hid; omega
  rw [hgO] at HO0 ⊢
  rw [hgR] at HR0 ⊢
  rw [hgP] at HP0 ⊢
  clear hgP hgR hgO
  go_loopw [4] (fun s4 wr => ∃ (k : Nat) (v : Value) (zs : List (FragC × FragI)), k ≤ cs.length ∧ k ≤ 6 ∧ s4 = .int .i64 k ∧ zs.length = k ∧ Hid (zs.map (·.2) = (fa.take k).map saneFrag) ∧ Hid (Ext w wr) ∧ Hid (Blk wr gP 25 #[.slice A cs.length c1, .slice C ia.length c3]) ∧ Hid (Blk wr gR 25 #[.slice none 0 0, .slice none 0 0]) ∧ Hid (Blk wr gO 25 #[v, .slice none 0 0]) ∧ Hid (∀ z ∈ zs, FragS wB wr z.1 z.2) ∧ Hid (wr.ownsRow w.heap.size 79 67 v zs.length (zs.map FragP.list).flatten)) (fun s4 _ => cs.length - (intOf s4).toNat)
  case atStart => exact ⟨0, _, [], by omega, by omega, rfl, rfl, rfl, HE0, HP0, HR0, HO0, (fun z hz => by cases hz), ownsRow_nil _ _ _ _⟩
  case round =>
    obtain ⟨k, v, zs, hk, hk6, rfl, hzl, hzm, hE, hP, hR, hO, hS, hW⟩ := hrel
    clear HP0 HR0 HO0 HE0
    have z0 := hP.out.cell (i := 0) rfl
    have y1 := hP.out.lt
    by_cases hk1 : k < cs.length
    · have d1 : decide ((k : Int) < cs.length) = true := decide_eq_true (by omega)
      have d1' : decide (k < cs.length) = true := decide_eq_true hk1
      by_cases hk2 : k < 6
      · have d2 : decide ((k : Int) < 6) = true := decide_eq_true (by omega)
        have d2' : decide (k < 6) = true := decide_eq_true hk2
        have hka : k < fa.length := by rw [← HCL.out]; exact hk1
        obtain ⟨b1, o1, rfl, lb1, g1⟩ := H3.out (by omega)
        obtain ⟨ea, sfa, sna⟩ := hca k cs[k] fa[k] (List.getElem?_eq_getElem hk1) (List.getElem?_eq_getElem hka)
        have hzm2 : Hid ((fa.take (k + 1)).map saneFrag = (fa.take k).map saneFrag ++ [saneFrag fa[k]]) := by
          unfold Hid
          rw [List.take_succ_eq_append_getElem hka, List.map_append]; rfl
        have HG := hid (fun j u (hu : (cs[k].arr)[j]? = some u) => (HBs.out.trans hE.out).cell (g1 k hk1 j u (by unfold FragC.arr at hu; simpa using hu)))
        have hzs := hid (fragC_arr cs[k])
        have HOn := hid (fragC_oneA cs[k])
        have HF0 : Hid ((cs[k].arr)[0]? = some cs[k].f.val) := by unfold Hid FragC.arr; rw [List.getElem?_toArray]; exact fragC_f _
        have HF66 : Hid ((cs[k].arr)[66]? = some cs[k].n.val) := by unfold Hid FragC.arr; rw [List.getElem?_toArray]; exact fragC_n _
        have HFv := hid (fun j v (h : (vecV cs[k].v)[j]? = some v) => (show (cs[k].arr)[1 + j]? = some v by unfold FragC.arr; rw [List.getElem?_toArray]; exact fragC_v cs[k] j v h))
        have hz1 := hid (show (vecV cs[k].v).size = 65 by rw [vecV_size]; exact cs[k].hv)
        have hvl := hid cs[k].hv
        have lr1 := Nat.lt_of_lt_of_le lb1 (HBs.out.trans hE.out).size
        rw [ea] at HFv hz1 hvl
        clear g1 lb1 ea hca H3
        generalize cs[k] = c at HG hzs HOn HF0 HF66 HFv sfa sna
        generalize hfx : saneFrag fa[k] = xs at hzm2
        generalize fa[k] = x at HFv hz1 hvl sfa sna hfx
        have HFx := hid hfx
        clear hfx
        generalize c.arr = arr at HG hzs HOn HF0 HF66 HFv
        obtain ⟨⟨f1, f2, f3⟩, _, ⟨n1, n2, n3⟩, _⟩ := c
        simp only [SlV.val] at HF0 HF66 sfa sna
        have HLt := fun W (hW : Ext w W) => hid (lightF_c W _ x.f (sfa.ext (HBs.out.trans hW)))
        have hn2 : n2 = x.n.length ∧ n2 ≤ n3 ∧ n3 ≤ 9223372036854775807 := by
          obtain ⟨A', c', hv, q1, q2, _⟩ := sl_get sna
          unfold maxLen at q2
          injection hv with _ e1 e2
          omega
        obtain ⟨t, ht⟩ : ∃ t : Nat, min (n2 : Int) 12 = (t : Int) := ⟨min n2 12, by omega⟩
        have HLow := fun W => hid (low_c n2 12 W)
        rw [ht] at HLow
        have htk : Hid (t ≤ n2 ∧ x.n.take t = x.n.take 12) := by
          have h9 : t = min n2 12 := by omega
          refine ⟨by omega, ?_⟩
          rw [h9, hn2.1, ← List.take_take]
          exact List.take_of_length_le (by rw [List.length_take]; omega)
        have hSn := hid (sl_cutK sna htk.out.1)
        have hSfa := hid sfa
        have t1 : t ≤ n3 := by have := htk.out; omega
        have t2 := hn2.2.2
        clear sna sfa hn2 ht
        go_wp2_with fail
        simp only [Tryz.sizeOf79, Result.andThen]
        rw [Oper.upon_value]
        go_wp2_with fail
        simp only [Tryz.isAgg79, Tryz.sizeOf79, Result.andThen, ↓reduceIte, run_loadCells_at HG.out 67 hzs.out]
        rw [Oper.upon_value]
        go_wp2_with fail
        have HB3 := hid (Blk.new wr 79 fragZ)
        simp only [Tryz.sizeOf79, Result.andThen, ↓reduceIte, run_storeCells_blk HB3.out (by rw [hzs.out]; exact frag_size) (by rw [hzs.out, fragZ_size]) HOn.out, hzs.out]
        rw [Oper.upon_skip]
        rw [World.setRow_alloc_new]
        clear HB3 HG
        have X2 := hid (Ext.alloc wr (.cells arr 79))
        have HB2 := hid (Blk.new wr 79 arr)
        have cf := HB2.out.cell HF0.out
        have bl := HB2.out.lt
        go_wp2_with fail
        refine ((HLt _ (hE.out.trans X2.out)).out).mono ?_
        rintro en w3 ⟨rfl, x3⟩
        have X3 := hid (X2.out.trans x3)
        have HB3 := hid (HB2.out.ext x3)
        clear cf bl x3 X2 HB2 HLt
        have cn := HB3.out.cell HF66.out
        have bl := HB3.out.lt
        clear z0 y1
        cases hl : lightF x.f with
        | true =>
          have HSa := fun W (hW : Ext w W) => hid (sane_c W _ x.f (hSfa.out.ext (HBs.out.trans hW)) (by have := (lightF_iff.1 hl).2; omega) (lightF_iff.1 hl).1)
          have HFx2 : Hid ((saneFrag x).f = saneF x.f) := by unfold Hid saneFrag; rw [hl, if_pos rfl]
          clear hl hSfa
          go_wp2_with fail
          refine ((HLow _).out).mono ?_
          rintro en w4 ⟨rfl, x4⟩
          have X4 := hid (X3.out.trans x4)
          have HB4 := hid (HB3.out.ext x4)
          have HO4 := hid (hO.out.ext X4.out)
          have E4 := hid (hE.out.trans X4.out)
          clear cn bl x4 X3 HB3 HLow
          have cn := HB4.out.cell HF66.out
          have bl := HB4.out.lt
          have o0 := HO4.out.cell (i := 0) rfl
          have ol := HO4.out.lt
          have HV4 := hid (fun j u (h : (vecV x.v)[j]? = some u) => HB4.out.cell (HFv.out j u h))
          go_wp2_with fail
          refine wp_region_three 47 (.pointer (some ⟨gO, 0, none⟩)) 12 (pre := ?pre1) (z1 := ?z11) (p := ?p11) (z2 := ?z21) ?hpre1 ?htl1 (by kernel_rfl) (by kernel_rfl) (by kernel_rfl) (by kernel_rfl) (by kernel_rfl) ?hpd1 ?hpg1 (by kernel_rfl) ?hps1 (by kernel_rfl) ?hpx1 ?_
          case hpre1 => (simp only [List.take_succ_cons, List.take_zero]; first | done | exact rfl)
          case htl1 => (simp only [List.drop_succ_cons, List.drop_zero]; first | done | exact rfl)
          case hpd1 => exact rfl
          case hpg1 => exact rfl
          case hps1 => exact rfl
          case hpx1 => (intro wc; go_simp; dsimp only [Gives]; exact ⟨rfl, rfl⟩)
          repeat (first
            | (refine AWq.val rfl rfl rfl rfl (fun K hK => ?_); go_big_quiet_op; refine hK _ ?_; clear hK K)
            | (refine AWq.skip rfl rfl rfl ?_; simp only [Act.put, List.setIfInBounds_toArray, List.set_cons_succ, List.set_cons_zero])
            | (refine AWq.callQ ((fun u W => ∃ sv : SlV, u = .slice sv.a sv.n sv.c ∧ RowT W 130 3 sv (saneF x.f).length ((saneF x.f).map ClauseI.cells).flatten)) ((fun v _ _ he h => h.imp fun sv h => ⟨h.1, ownsRow_ext h.2 he⟩)) rfl Tryz.func32 (by kernel_rfl) (by kernel_rfl) rfl rfl rfl (fun wc hc => ?_) ?_; (· (simp only [argsOf, anyAt, ↓reduceIte, Nat.reduceEqDiff, Array.getD_eq_getD_getElem?, List.getElem?_toArray, List.getElem?_cons_succ, List.getElem?_cons_zero, Option.getD_some]; exact (HSa wc (E4.out.trans hc)).out)))
            | (refine AWq.val rfl rfl rfl rfl (fun K hK => ?_); refine quiet_load_at rfl rfl (fun wc hwc => by obtain ⟨E, rfl⟩ := hwc; exact vec_loadVar hz1.out (fun j v hv => (Ext.of_wext _ _).cell (HV4.out j v hv))) (hK _ ?_); clear hK K; simp only [Act.put, List.setIfInBounds_toArray, List.set_cons_succ, List.set_cons_zero])
            | (refine AWq.opQ (fun u W => ∃ sv : SlV, u = .agg (FragC.mk sv x.v ⟨n1, t, n3⟩ hvl.out).arr ∧ RowT W 130 3 sv (saneF x.f).length ((saneF x.f).map ClauseI.cells).flatten) (fun u a b he h => h.imp fun sv h => ⟨h.1, ownsRow_ext h.2 he⟩) rfl (fun a wc hc hl' => ⟨rfl, ?_⟩) ?_; (· (have e37 : ∃ sv : SlV, a.tmps.getD 37 undef = .slice sv.a sv.n sv.c ∧ RowT wc 130 3 sv (saneF x.f).length ((saneF x.f).map ClauseI.cells).flatten := hl' 37 (of_decide_eq_true (by kernel_rfl)); have e39 : a.tmps.getD 39 undef = .agg (vecV x.v) := hl' 39 (of_decide_eq_true (by kernel_rfl)); have e43 : a.tmps.getD 43 undef = .slice n1 t n3 := hl' 43 (of_decide_eq_true (by kernel_rfl)); obtain ⟨sv, e37, r37⟩ := e37; refine gives_build 79 #[(0, .tmp 37), (1, .tmp 39), (2, .tmp 43)] (FragC.mk sv x.v ⟨n1, t, n3⟩ hvl.out).arr rfl ?_ ⟨⟨sv, rfl, r37⟩, Ext.refl _⟩; (have f37 : a.eval (.tmp 37) = _ := e37); (have f39 : a.eval (.tmp 39) = _ := e39); (have f43 : a.eval (.tmp 43) = _ := e43); simp only [List.map_toArray, List.map_cons, List.map_nil, f37, f39, f43]; exact frag_built (FragC.mk sv x.v ⟨n1, t, n3⟩ hvl.out))))
            | (refine AWq.opQ (fun u W => ∃ (sv : SlV) (g : Nat), u = .slice (some ⟨g, 0, none⟩) 1 1 ∧ Blk W g 79 (FragC.mk sv x.v ⟨n1, t, n3⟩ hvl.out).arr ∧ RowT W 130 3 sv (saneF x.f).length ((saneF x.f).map ClauseI.cells).flatten) (fun u a b he ⟨sv, g, h1, h2, h3⟩ => ⟨sv, g, h1, h2.ext he, ownsRow_ext h3 he⟩) rfl (fun a wc hc hl' => ⟨rfl, ?_⟩) ?_; (· (have e44 : ∃ sv : SlV, a.tmps.getD 44 undef = .agg (FragC.mk sv x.v ⟨n1, t, n3⟩ hvl.out).arr ∧ RowT wc 130 3 sv (saneF x.f).length ((saneF x.f).map ClauseI.cells).flatten := hl' 44 (of_decide_eq_true (by kernel_rfl)); obtain ⟨sv, e44, r44⟩ := e44; refine Gives.mono (fun u W' hu => ?_) (gives_oneF (a := a) (x := .tmp 44) rfl e44 (fragC_arr _)); obtain ⟨rfl, rfl⟩ := hu; exact ⟨⟨sv, _, rfl, Blk.new _ _ _, ownsRow_ext r44 (Ext.alloc _ _)⟩, Ext.alloc _ _⟩))))
          refine AWq.three rfl rfl rfl rfl rfl (fun w5 x5 => ?_)
          have HNew : Hid (∀ (sv : SlV) (g : Nat), Blk w5 g 79 (FragC.mk sv x.v ⟨n1, t, n3⟩ hvl.out).arr → RowT w5 130 3 sv (saneF x.f).length ((saneF x.f).map ClauseI.cells).flatten → ∃ (s' : SlV) (w6 : World), (Builtin.append_ #[22, 22] 22 #[v, .slice (some ⟨g, 0, none⟩) 1 1]).run Tryz.prog w5 = .ok (.slice s'.a s'.n s'.c) w6 ∧ Ext w w6 ∧ Blk w6 gP 25 #[.slice (some ⟨b1, o1, none⟩) cs.length c1, .slice C ia.length c3] ∧ Blk w6 gR 25 #[.slice none 0 0, .slice none 0 0] ∧ Blk w6 gO 25 #[v, .slice none 0 0] ∧ ∃ z : FragC × FragI, z.2 = xs ∧ (∀ y ∈ zs ++ [z], FragS wB w6 y.1 y.2) ∧ w6.ownsRow w.heap.size 79 67 (.slice s'.a s'.n s'.c) (zs ++ [z]).length ((zs ++ [z]).map FragP.list).flatten) := by
            intro sv g hb hr
            have hX5 := X4.out.trans x5
            have hw5 := ownsRow_ext hW.out hX5
            obtain ⟨v', w6, hr6, ho6, hk6, -, -⟩ := app_row (P := Tryz.prog) (tx := 22) (ty := 22) frag_elem hw5 ((hE.out.trans hX5).size) (src_row frag_elem.slice (row_one hb (fragC_arr _)) (by rw [show (FragC.mk sv x.v ⟨n1, t, n3⟩ hvl.out).arr.toList = (FragC.mk sv x.v ⟨n1, t, n3⟩ hvl.out).list from rfl]; exact fragC_oneL _)) (by unfold maxLen; omega) (by have h10 : zs.length ≤ 10 := (by omega); omega)
            obtain ⟨s', rfl⟩ := slV_of ho6
            unfold SlV.val at hr6 ho6
            refine ⟨s', w6, hr6, hk6.toExt (hE.out.trans hX5) (fun q hq => (row_block hw5 q hq).1), Blk.keep (hP.out.ext hX5) hk6 (fun h => row_apart hw5 (hP.out.ext hX5) (by decide) h), Blk.keep (hR.out.ext hX5) hk6 (fun h => row_apart hw5 (hR.out.ext hX5) (by decide) h), Blk.keep (hO.out.ext hX5) hk6 (fun h => row_apart hw5 (hO.out.ext hX5) (by decide) h), (FragC.mk sv x.v ⟨n1, t, n3⟩ hvl.out, xs), rfl, ?_, ?_⟩
            · intro y hy
              rcases List.mem_append.1 hy with hy | hy
              · exact ((hS.out y hy).ext hX5).keepRow hw5 (by decide) hk6
              · rw [List.mem_singleton.1 hy]
                refine FragS.keepRow (w := w5) ⟨?_, ?_, ?_⟩ hw5 (by decide) hk6
                · rw [← HFx.out]; rfl
                · show RowT w5 _ 3 sv xs.f.length (xs.f.map ClauseI.cells).flatten
                  rw [← HFx.out, HFx2.out]; exact hr
                · show Sl wB 2 (.slice n1 t n3) (xs.n.map Ver.cells)
                  have e9 : xs.n = x.n.take t := by rw [← HFx.out, htk.out.2]; rfl
                  rw [e9, List.map_take]; exact hSn.out
            · have e : (zs ++ [(FragC.mk sv x.v ⟨n1, t, n3⟩ hvl.out, xs)]).map FragP.list = zs.map FragP.list ++ [(FragC.mk sv x.v ⟨n1, t, n3⟩ hvl.out).arr.toList] := by rw [List.map_append]; rfl
              rw [e, List.flatten_append, List.length_append]
              simpa using ho6
          clear cn bl o0 ol HV4 HB4 HSa
          constructor
          · simp only [closeAny, Act.put, List.setIfInBounds_toArray, List.set_cons_succ, List.set_cons_zero]
            rintro u45 ⟨sv, g, rfl, hb5, hr5⟩ u44 - u37 -
            obtain ⟨s', w6, hr6, hE6, hP6, hR6, hO6, z, hz9, hS6, hW6⟩ := HNew.out sv g hb5 hr5
            have HE6 := hid hE6
            have HP6 := hid hP6
            have HR6 := hid hR6
            have HO6 := hid hO6
            have HS6 := hid hS6
            have HW6 := hid hW6
            have HZ := hid hz9
            have o0 := hO6.cell (i := 0) rfl
            have o1' := hO6.frozen 0
            have ol := hO6.lt
            clear hb5 hr5 hE6 hP6 hR6 hO6 hS6 hW6 hz9 HNew
            go_wp2_with (at_builtin; refine wpList_app rfl (.tmp 35) (.tmp 45) _ _ rfl rfl rfl hr6 ?_)
            have k7 : Keep (fun q => q = gO) w6 (w6.setCell ⟨gO, 0, none⟩ (.slice s'.a s'.n s'.c)) := Keep.setCell (S := fun q => q = gO) (Keep.refl _ w6) (p := ⟨gO, 0, none⟩) (.inl rfl) (.slice s'.a s'.n s'.c)
            go_roundw
            case rel => exact ⟨k + 1, .slice s'.a s'.n s'.c, zs ++ [z], by omega, by omega, by go_num, by rw [List.length_append, hzl]; rfl, by rw [hzm2.out, List.map_append, hzm.out, ← HZ.out]; rfl, Ext.setCell' HE6.out (p := ⟨gO, 0, none⟩) HG9.out.2.2.1 (.slice s'.a s'.n s'.c), Blk.keep HP6.out k7 HG9.out.2.2.2.1, Blk.keep HR6.out k7 HG9.out.2.2.2.2, HO6.out.set 0 (.slice s'.a s'.n s'.c), fun y hy => (HS6.out y hy).keepBlk HO6.out (by decide) k7, ownsRow_keep HW6.out k7 (fun q hq hs => row_apart HW6.out HO6.out (by decide) (by rw [← hs]; exact hq))⟩
            case measure => simp [intOf]; omega
          · simp only [closeAny, Act.put, List.setIfInBounds_toArray, List.set_cons_succ, List.set_cons_zero]
            rintro u45 ⟨sv, g, rfl, hb5, hr5⟩ u44 - u37 -
            obtain ⟨s', w6, hr6, hE6, hP6, hR6, hO6, z, hz9, hS6, hW6⟩ := HNew.out sv g hb5 hr5
            have HE6 := hid hE6
            have HP6 := hid hP6
            have HR6 := hid hR6
            have HO6 := hid hO6
            have HS6 := hid hS6
            have HW6 := hid hW6
            have HZ := hid hz9
            have o0 := hO6.cell (i := 0) rfl
            have o1' := hO6.frozen 0
            have ol := hO6.lt
            clear hb5 hr5 hE6 hP6 hR6 hO6 hS6 hW6 hz9 HNew
            go_wp2_with (at_builtin; refine wpList_app rfl (.tmp 35) (.tmp 45) _ _ rfl rfl rfl hr6 ?_)
            have k7 : Keep (fun q => q = gO) w6 (w6.setCell ⟨gO, 0, none⟩ (.slice s'.a s'.n s'.c)) := Keep.setCell (S := fun q => q = gO) (Keep.refl _ w6) (p := ⟨gO, 0, none⟩) (.inl rfl) (.slice s'.a s'.n s'.c)
            go_roundw
            case rel => exact ⟨k + 1, .slice s'.a s'.n s'.c, zs ++ [z], by omega, by omega, by go_num, by rw [List.length_append, hzl]; rfl, by rw [hzm2.out, List.map_append, hzm.out, ← HZ.out]; rfl, Ext.setCell' HE6.out (p := ⟨gO, 0, none⟩) HG9.out.2.2.1 (.slice s'.a s'.n s'.c), Blk.keep HP6.out k7 HG9.out.2.2.2.1, Blk.keep HR6.out k7 HG9.out.2.2.2.2, HO6.out.set 0 (.slice s'.a s'.n s'.c), fun y hy => (HS6.out y hy).keepBlk HO6.out (by decide) k7, ownsRow_keep HW6.out k7 (fun q hq hs => row_apart HW6.out HO6.out (by decide) (by rw [← hs]; exact hq))⟩
            case measure => simp [intOf]; omega
        | false =>
          have HSa := fun W (hW : Ext w W) => hid (sane_c W (.slice none 0 0) [] (Sl.nil W 3) (by simp) (fun c hc => by cases hc))
          have HFx2 : Hid ((saneFrag x).f = saneF []) := by unfold Hid saneFrag; rw [hl, if_neg Bool.false_ne_true]
          clear hl hSfa
          go_wp2_with fail
          refine ((HLow _).out).mono ?_
          rintro en w4 ⟨rfl, x4⟩
          have X4 := hid (X3.out.trans x4)
          have HB4 := hid (HB3.out.ext x4)
          have HO4 := hid (hO.out.ext X4.out)
          have E4 := hid (hE.out.trans X4.out)
          clear cn bl x4 X3 HB3 HLow
          have cn := HB4.out.cell HF66.out
          have bl := HB4.out.lt
          have o0 := HO4.out.cell (i := 0) rfl
          have ol := HO4.out.lt
          have HV4 := hid (fun j u (h : (vecV x.v)[j]? = some u) => HB4.out.cell (HFv.out j u h))
          go_wp2_with fail
          refine wp_region_three 47 (.pointer (some ⟨gO, 0, none⟩)) 12 (pre := ?pre2) (z1 := ?z12) (p := ?p12) (z2 := ?z22) ?hpre2 ?htl2 (by kernel_rfl) (by kernel_rfl) (by kernel_rfl) (by kernel_rfl) (by kernel_rfl) ?hpd2 ?hpg2 (by kernel_rfl) ?hps2 (by kernel_rfl) ?hpx2 ?_
          case hpre2 => (simp only [List.take_succ_cons, List.take_zero]; first | done | exact rfl)
          case htl2 => (simp only [List.drop_succ_cons, List.drop_zero]; first | done | exact rfl)
          case hpd2 => exact rfl
          case hpg2 => exact rfl
          case hps2 => exact rfl
          case hpx2 => (intro wc; go_simp; dsimp only [Gives]; exact ⟨rfl, rfl⟩)
          repeat (first
            | (refine AWq.val rfl rfl rfl rfl (fun K hK => ?_); go_big_quiet_op; refine hK _ ?_; clear hK K)
            | (refine AWq.skip rfl rfl rfl ?_; simp only [Act.put, List.setIfInBounds_toArray, List.set_cons_succ, List.set_cons_zero])
            | (refine AWq.callQ ((fun u W => ∃ sv : SlV, u = .slice sv.a sv.n sv.c ∧ RowT W 130 3 sv (saneF ([] : List ClauseI)).length ((saneF ([] : List ClauseI)).map ClauseI.cells).flatten)) ((fun v _ _ he h => h.imp fun sv h => ⟨h.1, ownsRow_ext h.2 he⟩)) rfl Tryz.func32 (by kernel_rfl) (by kernel_rfl) rfl rfl rfl (fun wc hc => ?_) ?_; (· (simp only [argsOf, anyAt, ↓reduceIte, Nat.reduceEqDiff, Array.getD_eq_getD_getElem?, List.getElem?_toArray, List.getElem?_cons_succ, List.getElem?_cons_zero, Option.getD_some]; exact (HSa wc (E4.out.trans hc)).out)))
            | (refine AWq.val rfl rfl rfl rfl (fun K hK => ?_); refine quiet_load_at rfl rfl (fun wc hwc => by obtain ⟨E, rfl⟩ := hwc; exact vec_loadVar hz1.out (fun j v hv => (Ext.of_wext _ _).cell (HV4.out j v hv))) (hK _ ?_); clear hK K; simp only [Act.put, List.setIfInBounds_toArray, List.set_cons_succ, List.set_cons_zero])
            | (refine AWq.opQ (fun u W => ∃ sv : SlV, u = .agg (FragC.mk sv x.v ⟨n1, t, n3⟩ hvl.out).arr ∧ RowT W 130 3 sv (saneF ([] : List ClauseI)).length ((saneF ([] : List ClauseI)).map ClauseI.cells).flatten) (fun u a b he h => h.imp fun sv h => ⟨h.1, ownsRow_ext h.2 he⟩) rfl (fun a wc hc hl' => ⟨rfl, ?_⟩) ?_; (· (have e37 : ∃ sv : SlV, a.tmps.getD 37 undef = .slice sv.a sv.n sv.c ∧ RowT wc 130 3 sv (saneF ([] : List ClauseI)).length ((saneF ([] : List ClauseI)).map ClauseI.cells).flatten := hl' 37 (of_decide_eq_true (by kernel_rfl)); have e39 : a.tmps.getD 39 undef = .agg (vecV x.v) := hl' 39 (of_decide_eq_true (by kernel_rfl)); have e43 : a.tmps.getD 43 undef = .slice n1 t n3 := hl' 43 (of_decide_eq_true (by kernel_rfl)); obtain ⟨sv, e37, r37⟩ := e37; refine gives_build 79 #[(0, .tmp 37), (1, .tmp 39), (2, .tmp 43)] (FragC.mk sv x.v ⟨n1, t, n3⟩ hvl.out).arr rfl ?_ ⟨⟨sv, rfl, r37⟩, Ext.refl _⟩; (have f37 : a.eval (.tmp 37) = _ := e37); (have f39 : a.eval (.tmp 39) = _ := e39); (have f43 : a.eval (.tmp 43) = _ := e43); simp only [List.map_toArray, List.map_cons, List.map_nil, f37, f39, f43]; exact frag_built (FragC.mk sv x.v ⟨n1, t, n3⟩ hvl.out))))
            | (refine AWq.opQ (fun u W => ∃ (sv : SlV) (g : Nat), u = .slice (some ⟨g, 0, none⟩) 1 1 ∧ Blk W g 79 (FragC.mk sv x.v ⟨n1, t, n3⟩ hvl.out).arr ∧ RowT W 130 3 sv (saneF ([] : List ClauseI)).length ((saneF ([] : List ClauseI)).map ClauseI.cells).flatten) (fun u a b he ⟨sv, g, h1, h2, h3⟩ => ⟨sv, g, h1, h2.ext he, ownsRow_ext h3 he⟩) rfl (fun a wc hc hl' => ⟨rfl, ?_⟩) ?_; (· (have e44 : ∃ sv : SlV, a.tmps.getD 44 undef = .agg (FragC.mk sv x.v ⟨n1, t, n3⟩ hvl.out).arr ∧ RowT wc 130 3 sv (saneF ([] : List ClauseI)).length ((saneF ([] : List ClauseI)).map ClauseI.cells).flatten := hl' 44 (of_decide_eq_true (by kernel_rfl)); obtain ⟨sv, e44, r44⟩ := e44; refine Gives.mono (fun u W' hu => ?_) (gives_oneF (a := a) (x := .tmp 44) rfl e44 (fragC_arr _)); obtain ⟨rfl, rfl⟩ := hu; exact ⟨⟨sv, _, rfl, Blk.new _ _ _, ownsRow_ext r44 (Ext.alloc _ _)⟩, Ext.alloc _ _⟩))))
          refine AWq.three rfl rfl rfl rfl rfl (fun w5 x5 => ?_)
          have HNew : Hid (∀ (sv : SlV) (g : Nat), Blk w5 g 79 (FragC.mk sv x.v ⟨n1, t, n3⟩ hvl.out).arr → RowT w5 130 3 sv (saneF ([] : List ClauseI)).length ((saneF ([] : List ClauseI)).map ClauseI.cells).flatten → ∃ (s' : SlV) (w6 : World), (Builtin.append_ #[22, 22] 22 #[v, .slice (some ⟨g, 0, none⟩) 1 1]).run Tryz.prog w5 = .ok (.slice s'.a s'.n s'.c) w6 ∧ Ext w w6 ∧ Blk w6 gP 25 #[.slice (some ⟨b1, o1, none⟩) cs.length c1, .slice C ia.length c3] ∧ Blk w6 gR 25 #[.slice none 0 0, .slice none 0 0] ∧ Blk w6 gO 25 #[v, .slice none 0 0] ∧ ∃ z : FragC × FragI, z.2 = xs ∧ (∀ y ∈ zs ++ [z], FragS wB w6 y.1 y.2) ∧ w6.ownsRow w.heap.size 79 67 (.slice s'.a s'.n s'.c) (zs ++ [z]).length ((zs ++ [z]).map FragP.list).flatten) := by
            intro sv g hb hr
            have hX5 := X4.out.trans x5
            have hw5 := ownsRow_ext hW.out hX5
            obtain ⟨v', w6, hr6, ho6, hk6, -, -⟩ := app_row (P := Tryz.prog) (tx := 22) (ty := 22) frag_elem hw5 ((hE.out.trans hX5).size) (src_row frag_elem.slice (row_one hb (fragC_arr _)) (by rw [show (FragC.mk sv x.v ⟨n1, t, n3⟩ hvl.out).arr.toList = (FragC.mk sv x.v ⟨n1, t, n3⟩ hvl.out).list from rfl]; exact fragC_oneL _)) (by unfold maxLen; omega) (by have h10 : zs.length ≤ 10 := (by omega); omega)
            obtain ⟨s', rfl⟩ := slV_of ho6
            unfold SlV.val at hr6 ho6
            refine ⟨s', w6, hr6, hk6.toExt (hE.out.trans hX5) (fun q hq => (row_block hw5 q hq).1), Blk.keep (hP.out.ext hX5) hk6 (fun h => row_apart hw5 (hP.out.ext hX5) (by decide) h), Blk.keep (hR.out.ext hX5) hk6 (fun h => row_apart hw5 (hR.out.ext hX5) (by decide) h), Blk.keep (hO.out.ext hX5) hk6 (fun h => row_apart hw5 (hO.out.ext hX5) (by decide) h), (FragC.mk sv x.v ⟨n1, t, n3⟩ hvl.out, xs), rfl, ?_, ?_⟩
            · intro y hy
              rcases List.mem_append.1 hy with hy | hy
              · exact ((hS.out y hy).ext hX5).keepRow hw5 (by decide) hk6
              · rw [List.mem_singleton.1 hy]
                refine FragS.keepRow (w := w5) ⟨?_, ?_, ?_⟩ hw5 (by decide) hk6
                · rw [← HFx.out]; rfl
                · show RowT w5 _ 3 sv xs.f.length (xs.f.map ClauseI.cells).flatten
                  rw [← HFx.out, HFx2.out]; exact hr
                · show Sl wB 2 (.slice n1 t n3) (xs.n.map Ver.cells)
                  have e9 : xs.n = x.n.take t := by rw [← HFx.out, htk.out.2]; rfl
                  rw [e9, List.map_take]; exact hSn.out
            · have e : (zs ++ [(FragC.mk sv x.v ⟨n1, t, n3⟩ hvl.out, xs)]).map FragP.list = zs.map FragP.list ++ [(FragC.mk sv x.v ⟨n1, t, n3⟩ hvl.out).arr.toList] := by rw [List.map_append]; rfl
              rw [e, List.flatten_append, List.length_append]
              simpa using ho6
          clear cn bl o0 ol HV4 HB4 HSa
          constructor
          · simp only [closeAny, Act.put, List.setIfInBounds_toArray, List.set_cons_succ, List.set_cons_zero]
            rintro u45 ⟨sv, g, rfl, hb5, hr5⟩ u44 - u37 -
            obtain ⟨s', w6, hr6, hE6, hP6, hR6, hO6, z, hz9, hS6, hW6⟩ := HNew.out sv g hb5 hr5
            have HE6 := hid hE6
            have HP6 := hid hP6
            have HR6 := hid hR6
            have HO6 := hid hO6
            have HS6 := hid hS6
            have HW6 := hid hW6
            have HZ := hid hz9
            have o0 := hO6.cell (i := 0) rfl
            have o1' := hO6.frozen 0
            have ol := hO6.lt
            clear hb5 hr5 hE6 hP6 hR6 hO6 hS6 hW6 hz9 HNew
            go_wp2_with (at_builtin; refine wpList_app rfl (.tmp 35) (.tmp 45) _ _ rfl rfl rfl hr6 ?_)
            have k7 : Keep (fun q => q = gO) w6 (w6.setCell ⟨gO, 0, none⟩ (.slice s'.a s'.n s'.c)) := Keep.setCell (S := fun q => q = gO) (Keep.refl _ w6) (p := ⟨gO, 0, none⟩) (.inl rfl) (.slice s'.a s'.n s'.c)
            go_roundw
            case rel => exact ⟨k + 1, .slice s'.a s'.n s'.c, zs ++ [z], by omega, by omega, by go_num, by rw [List.length_append, hzl]; rfl, by rw [hzm2.out, List.map_append, hzm.out, ← HZ.out]; rfl, Ext.setCell' HE6.out (p := ⟨gO, 0, none⟩) HG9.out.2.2.1 (.slice s'.a s'.n s'.c), Blk.keep HP6.out k7 HG9.out.2.2.2.1, Blk.keep HR6.out k7 HG9.out.2.2.2.2, HO6.out.set 0 (.slice s'.a s'.n s'.c), fun y hy => (HS6.out y hy).keepBlk HO6.out (by decide) k7, ownsRow_keep HW6.out k7 (fun q hq hs => row_apart HW6.out HO6.out (by decide) (by rw [← hs]; exact hq))⟩
            case measure => simp [intOf]; omega
          · simp only [closeAny, Act.put, List.setIfInBounds_toArray, List.set_cons_succ, List.set_cons_zero]
            rintro u45 ⟨sv, g, rfl, hb5, hr5⟩ u44 - u37 -
            obtain ⟨s', w6, hr6, hE6, hP6, hR6, hO6, z, hz9, hS6, hW6⟩ := HNew.out sv g hb5 hr5
            have HE6 := hid hE6
            have HP6 := hid hP6
            have HR6 := hid hR6
            have HO6 := hid hO6
            have HS6 := hid hS6
            have HW6 := hid hW6
            have HZ := hid hz9
            have o0 := hO6.cell (i := 0) rfl
            have o1' := hO6.frozen 0
            have ol := hO6.lt
            clear hb5 hr5 hE6 hP6 hR6 hO6 hS6 hW6 hz9 HNew
            go_wp2_with (at_builtin; refine wpList_app rfl (.tmp 35) (.tmp 45) _ _ rfl rfl rfl hr6 ?_)
            have k7 : Keep (fun q => q = gO) w6 (w6.setCell ⟨gO, 0, none⟩ (.slice s'.a s'.n s'.c)) := Keep.setCell (S := fun q => q = gO) (Keep.refl _ w6) (p := ⟨gO, 0, none⟩) (.inl rfl) (.slice s'.a s'.n s'.c)
            go_roundw
            case rel => exact ⟨k + 1, .slice s'.a s'.n s'.c, zs ++ [z], by omega, by omega, by go_num, by rw [List.length_append, hzl]; rfl, by rw [hzm2.out, List.map_append, hzm.out, ← HZ.out]; rfl, Ext.setCell' HE6.out (p := ⟨gO, 0, none⟩) HG9.out.2.2.1 (.slice s'.a s'.n s'.c), Blk.keep HP6.out k7 HG9.out.2.2.2.1, Blk.keep HR6.out k7 HG9.out.2.2.2.2, HO6.out.set 0 (.slice s'.a s'.n s'.c), fun y hy => (HS6.out y hy).keepBlk HO6.out (by decide) k7, ownsRow_keep HW6.out k7 (fun q hq hs => row_apart HW6.out HO6.out (by decide) (by rw [← hs]; exact hq))⟩
            case measure => simp [intOf]; omega
      · obtain rfl : k = 6 := by omega
        have hzm6 : Hid (zs.map (·.2) = (fa.take 6).map saneFrag) := by
          first
            | exact hzm.out
            | (show _ = _; rw [hzm.out, List.take_of_length_le (by have := HCL.out; omega), List.take_of_length_le (by have := HCL.out; omega)])
        have z1 := hP.out.cell (i := 1) rfl
        obtain ⟨s0, rfl⟩ := slV_of hW.out
        obtain ⟨t, ht⟩ : ∃ t : Nat, min (ia.length : Int) 12 = (t : Int) := ⟨min ia.length 12, by omega⟩
        have HLow := fun W => hid (low_c ia.length 12 W)
        rw [ht] at HLow
        have htk : Hid (t ≤ ia.length ∧ ia.take t = ia.take 12) := by
          have h9 : t = min ia.length 12 := by omega
          refine ⟨by omega, ?_⟩
          rw [h9, ← List.take_take]
          exact List.take_of_length_le (by rw [List.length_take]; omega)
        have hSk := hid (sl_cutK HAk.out htk.out.1)
        have t1 : t ≤ c3 := by have := htk.out; omega
        clear ht hca H3 HAk
        go_wp2_with fail
        refine ((HLow _).out).mono ?_
        rintro en w4 ⟨rfl, x4⟩
        have HP4 := hid (hP.out.ext x4)
        have HR4 := hid (hR.out.ext x4)
        have HO4 := hid (hO.out.ext x4)
        have HE4 := hid (hE.out.trans x4)
        have HW4 := hid (ownsRow_ext hW.out x4)
        have HS4 : Hid (∀ z ∈ zs, FragS wB w4 z.1 z.2) := fun z hz => (hS.out z hz).ext x4
        clear z0 z1 y1 x4 hP hR hO hE hW hS HLow
        have z1 := HP4.out.cell (i := 1) rfl
        have y1 := HP4.out.lt
        have o0 := HO4.out.cell (i := 0) rfl
        have o1 := HO4.out.cell (i := 1) rfl
        have o2 := HO4.out.frozen 1
        have ol := HO4.out.lt
        have r0 := HR4.out.cell (i := 0) rfl
        have r1 := HR4.out.cell (i := 1) rfl
        have r2 := HR4.out.frozen 0
        have r3 := HR4.out.frozen 1
        have rl := HR4.out.lt
        have hne : ¬ gO = gR := fun h => HG9.out.2.2.2.2 h.symm
        have hne' : ¬ gR = gO := fun h => HG9.out.2.2.2.2 h
        unfold SlV.val at o0
        go_wp2_with fail
        have kA : Keep (fun q => q = gO ∨ q = gR) w4 (((w4.setCell ⟨gO, 1, none⟩ (.slice C t c3)).setCell ⟨gR, 0, none⟩ (.slice s0.a s0.n s0.c)).setCell ⟨gR, 1, none⟩ (.slice C t c3)) :=
          Keep.setCell (S := fun q => q = gO ∨ q = gR) (Keep.setCell (S := fun q => q = gO ∨ q = gR) (Keep.setCell (S := fun q => q = gO ∨ q = gR) (Keep.refl _ w4) (p := ⟨gO, 1, none⟩) (.inl (.inl rfl)) (.slice C t c3)) (p := ⟨gR, 0, none⟩) (.inl (.inr rfl)) (.slice s0.a s0.n s0.c)) (p := ⟨gR, 1, none⟩) (.inl (.inr rfl)) (.slice C t c3)
        have kO : Keep (fun q => q = gO) w4 (w4.setCell ⟨gO, 1, none⟩ (.slice C t c3)) := Keep.setCell (S := fun q => q = gO) (Keep.refl _ w4) (p := ⟨gO, 1, none⟩) (.inl rfl) (.slice C t c3)
        have HF : Hid (Blk _ gR 25 #[.slice s0.a s0.n s0.c, .slice C t c3]) := ((Blk.keep HR4.out kO hne').set 0 (.slice s0.a s0.n s0.c)).set 1 (.slice C t c3)
        have hE9 : Ext w (((w4.setCell ⟨gO, 1, none⟩ (.slice C t c3)).setCell ⟨gR, 0, none⟩ (.slice s0.a s0.n s0.c)).setCell ⟨gR, 1, none⟩ (.slice C t c3)) :=
          Ext.setCell' (Ext.setCell' (Ext.setCell' HE4.out (p := ⟨gO, 1, none⟩) HG9.out.2.2.1 (.slice C t c3)) (p := ⟨gR, 0, none⟩) HG9.out.2.1 (.slice s0.a s0.n s0.c)) (p := ⟨gR, 1, none⟩) HG9.out.2.1 (.slice C t c3)
        have hW9 := ownsRow_keep HW4.out kA (fun q hq hs => hs.elim (fun h => row_apart HW4.out HO4.out (by decide) (by rw [← h]; exact hq)) (fun h => row_apart HW4.out HR4.out (by decide) (by rw [← h]; exact hq)))
        have hS9 : ∀ z ∈ zs, FragS wB (((w4.setCell ⟨gO, 1, none⟩ (.slice C t c3)).setCell ⟨gR, 0, none⟩ (.slice s0.a s0.n s0.c)).setCell ⟨gR, 1, none⟩ (.slice C t c3)) z.1 z.2 := fun z hz => by
          have h9 := HS4.out z hz
          exact ⟨h9.1, ownsRow_keep h9.2.1 kA (fun q hq hs => hs.elim (fun h => row_apart h9.2.1 HO4.out (by decide) (by rw [← h]; exact hq)) (fun h => row_apart h9.2.1 HR4.out (by decide) (by rw [← h]; exact hq))), h9.2.2⟩
        refine bodyPost_ret (results_cell_row rfl _ _ gR 25 _ (0, 0) _ rfl HF.out Tryz.underlying25 rfl (show (Tryz.prog.info? 25).map (·.size) = some 2 by kernel_rfl)) rfl ?_
        refine ⟨_, rfl, ⟨s0, ⟨C, t, c3⟩, rfl, ⟨?_, ?_⟩, ?_⟩, hE9⟩
        · show FragsAt _ _ ((fa.take 6).map saneFrag)
          rw [← hzm6.out]
          exact frags_ofS (HBs.out.trans hE9) hW9 hS9
        · show Sl _ 67 _ ((ia.take 12).map KnownI.list)
          rw [← htk.out.2, List.map_take]
          exact hSk.out.ext (HBs.out.trans hE9)
        · intro q cs9 W' hq hb9 hk9
          have hX9 : Ext wB W' := hk9.toExt (HBs.out.trans hE9) (fun g hg => by rw [hg]; exact hq)
          refine ⟨?_, ?_⟩
          · show FragsAt _ _ ((fa.take 6).map saneFrag)
            rw [← hzm6.out]
            exact frags_ofS hX9 (ownsRow_keep hW9 hk9 (fun g hg hs => row_apart hW9 hb9 (by decide) (by rw [← hs]; exact hg))) (fun z hz => (hS9 z hz).keepBlk hb9 (by decide) hk9)
          · show Sl _ 67 _ ((ia.take 12).map KnownI.list)
            rw [← htk.out.2, List.map_take]
            exact hSk.out.ext hX9
    · have d1 : decide ((k : Int) < cs.length) = false := decide_eq_false (by omega)
      have d1' : decide (k < cs.length) = false := decide_eq_false (by omega)
      by_cases hk2 : k < 6
      · have hkc : k = cs.length := by omega
        have hzm6 : Hid (zs.map (·.2) = (fa.take 6).map saneFrag) := by
          first
            | exact hzm.out
            | (show _ = _; rw [hzm.out, List.take_of_length_le (by have := HCL.out; omega), List.take_of_length_le (by have := HCL.out; omega)])
        have z1 := hP.out.cell (i := 1) rfl
        obtain ⟨s0, rfl⟩ := slV_of hW.out
        obtain ⟨t, ht⟩ : ∃ t : Nat, min (ia.length : Int) 12 = (t : Int) := ⟨min ia.length 12, by omega⟩
        have HLow := fun W => hid (low_c ia.length 12 W)
        rw [ht] at HLow
        have htk : Hid (t ≤ ia.length ∧ ia.take t = ia.take 12) := by
          have h9 : t = min ia.length 12 := by omega
          refine ⟨by omega, ?_⟩
          rw [h9, ← List.take_take]
          exact List.take_of_length_le (by rw [List.length_take]; omega)
        have hSk := hid (sl_cutK HAk.out htk.out.1)
        have t1 : t ≤ c3 := by have := htk.out; omega
        clear ht hca H3 HAk
        go_wp2_with fail
        refine ((HLow _).out).mono ?_
        rintro en w4 ⟨rfl, x4⟩
        have HP4 := hid (hP.out.ext x4)
        have HR4 := hid (hR.out.ext x4)
        have HO4 := hid (hO.out.ext x4)
        have HE4 := hid (hE.out.trans x4)
        have HW4 := hid (ownsRow_ext hW.out x4)
        have HS4 : Hid (∀ z ∈ zs, FragS wB w4 z.1 z.2) := fun z hz => (hS.out z hz).ext x4
        clear z0 z1 y1 x4 hP hR hO hE hW hS HLow
        have z1 := HP4.out.cell (i := 1) rfl
        have y1 := HP4.out.lt
        have o0 := HO4.out.cell (i := 0) rfl
        have o1 := HO4.out.cell (i := 1) rfl
        have o2 := HO4.out.frozen 1
        have ol := HO4.out.lt
        have r0 := HR4.out.cell (i := 0) rfl
        have r1 := HR4.out.cell (i := 1) rfl
        have r2 := HR4.out.frozen 0
        have r3 := HR4.out.frozen 1
        have rl := HR4.out.lt
        have hne : ¬ gO = gR := fun h => HG9.out.2.2.2.2 h.symm
        have hne' : ¬ gR = gO := fun h => HG9.out.2.2.2.2 h
        unfold SlV.val at o0
        go_wp2_with fail
        have kA : Keep (fun q => q = gO ∨ q = gR) w4 (((w4.setCell ⟨gO, 1, none⟩ (.slice C t c3)).setCell ⟨gR, 0, none⟩ (.slice s0.a s0.n s0.c)).setCell ⟨gR, 1, none⟩ (.slice C t c3)) :=
          Keep.setCell (S := fun q => q = gO ∨ q = gR) (Keep.setCell (S := fun q => q = gO ∨ q = gR) (Keep.setCell (S := fun q => q = gO ∨ q = gR) (Keep.refl _ w4) (p := ⟨gO, 1, none⟩) (.inl (.inl rfl)) (.slice C t c3)) (p := ⟨gR, 0, none⟩) (.inl (.inr rfl)) (.slice s0.a s0.n s0.c)) (p := ⟨gR, 1, none⟩) (.inl (.inr rfl)) (.slice C t c3)
        have kO : Keep (fun q => q = gO) w4 (w4.setCell ⟨gO, 1, none⟩ (.slice C t c3)) := Keep.setCell (S := fun q => q = gO) (Keep.refl _ w4) (p := ⟨gO, 1, none⟩) (.inl rfl) (.slice C t c3)
        have HF : Hid (Blk _ gR 25 #[.slice s0.a s0.n s0.c, .slice C t c3]) := ((Blk.keep HR4.out kO hne').set 0 (.slice s0.a s0.n s0.c)).set 1 (.slice C t c3)
        have hE9 : Ext w (((w4.setCell ⟨gO, 1, none⟩ (.slice C t c3)).setCell ⟨gR, 0, none⟩ (.slice s0.a s0.n s0.c)).setCell ⟨gR, 1, none⟩ (.slice C t c3)) :=
          Ext.setCell' (Ext.setCell' (Ext.setCell' HE4.out (p := ⟨gO, 1, none⟩) HG9.out.2.2.1 (.slice C t c3)) (p := ⟨gR, 0, none⟩) HG9.out.2.1 (.slice s0.a s0.n s0.c)) (p := ⟨gR, 1, none⟩) HG9.out.2.1 (.slice C t c3)
        have hW9 := ownsRow_keep HW4.out kA (fun q hq hs => hs.elim (fun h => row_apart HW4.out HO4.out (by decide) (by rw [← h]; exact hq)) (fun h => row_apart HW4.out HR4.out (by decide) (by rw [← h]; exact hq)))
        have hS9 : ∀ z ∈ zs, FragS wB (((w4.setCell ⟨gO, 1, none⟩ (.slice C t c3)).setCell ⟨gR, 0, none⟩ (.slice s0.a s0.n s0.c)).setCell ⟨gR, 1, none⟩ (.slice C t c3)) z.1 z.2 := fun z hz => by
          have h9 := HS4.out z hz
          exact ⟨h9.1, ownsRow_keep h9.2.1 kA (fun q hq hs => hs.elim (fun h => row_apart h9.2.1 HO4.out (by decide) (by rw [← h]; exact hq)) (fun h => row_apart h9.2.1 HR4.out (by decide) (by rw [← h]; exact hq))), h9.2.2⟩
        refine bodyPost_ret (results_cell_row rfl _ _ gR 25 _ (0, 0) _ rfl HF.out Tryz.underlying25 rfl (show (Tryz.prog.info? 25).map (·.size) = some 2 by kernel_rfl)) rfl ?_
        refine ⟨_, rfl, ⟨s0, ⟨C, t, c3⟩, rfl, ⟨?_, ?_⟩, ?_⟩, hE9⟩
        · show FragsAt _ _ ((fa.take 6).map saneFrag)
          rw [← hzm6.out]
          exact frags_ofS (HBs.out.trans hE9) hW9 hS9
        · show Sl _ 67 _ ((ia.take 12).map KnownI.list)
          rw [← htk.out.2, List.map_take]
          exact hSk.out.ext (HBs.out.trans hE9)
        · intro q cs9 W' hq hb9 hk9
          have hX9 : Ext wB W' := hk9.toExt (HBs.out.trans hE9) (fun g hg => by rw [hg]; exact hq)
          refine ⟨?_, ?_⟩
          · show FragsAt _ _ ((fa.take 6).map saneFrag)
            rw [← hzm6.out]
            exact frags_ofS hX9 (ownsRow_keep hW9 hk9 (fun g hg hs => row_apart hW9 hb9 (by decide) (by rw [← hs]; exact hg))) (fun z hz => (hS9 z hz).keepBlk hb9 (by decide) hk9)
          · show Sl _ 67 _ ((ia.take 12).map KnownI.list)
            rw [← htk.out.2, List.map_take]
            exact hSk.out.ext hX9
      · obtain rfl : k = 6 := by omega
        have hzm6 : Hid (zs.map (·.2) = (fa.take 6).map saneFrag) := by
          first
            | exact hzm.out
            | (show _ = _; rw [hzm.out, List.take_of_length_le (by have := HCL.out; omega), List.take_of_length_le (by have := HCL.out; omega)])
        have z1 := hP.out.cell (i := 1) rfl
        obtain ⟨s0, rfl⟩ := slV_of hW.out
        obtain ⟨t, ht⟩ : ∃ t : Nat, min (ia.length : Int) 12 = (t : Int) := ⟨min ia.length 12, by omega⟩
        have HLow := fun W => hid (low_c ia.length 12 W)
        rw [ht] at HLow
        have htk : Hid (t ≤ ia.length ∧ ia.take t = ia.take 12) := by
          have h9 : t = min ia.length 12 := by omega
          refine ⟨by omega, ?_⟩
          rw [h9, ← List.take_take]
          exact List.take_of_length_le (by rw [List.length_take]; omega)
        have hSk := hid (sl_cutK HAk.out htk.out.1)
        have t1 : t ≤ c3 := by have := htk.out; omega
        clear ht hca H3 HAk
        go_wp2_with fail
        refine ((HLow _).out).mono ?_
        rintro en w4 ⟨rfl, x4⟩
        have HP4 := hid (hP.out.ext x4)
        have HR4 := hid (hR.out.ext x4)
        have HO4 := hid (hO.out.ext x4)
        have HE4 := hid (hE.out.trans x4)
        have HW4 := hid (ownsRow_ext hW.out x4)
        have HS4 : Hid (∀ z ∈ zs, FragS wB w4 z.1 z.2) := fun z hz => (hS.out z hz).ext x4
        clear z0 z1 y1 x4 hP hR hO hE hW hS HLow
        have z1 := HP4.out.cell (i := 1) rfl
        have y1 := HP4.out.lt
        have o0 := HO4.out.cell (i := 0) rfl
        have o1 := HO4.out.cell (i := 1) rfl
        have o2 := HO4.out.frozen 1
        have ol := HO4.out.lt
        have r0 := HR4.out.cell (i := 0) rfl
        have r1 := HR4.out.cell (i := 1) rfl
        have r2 := HR4.out.frozen 0
        have r3 := HR4.out.frozen 1
        have rl := HR4.out.lt
        have hne : ¬ gO = gR := fun h => HG9.out.2.2.2.2 h.symm
        have hne' : ¬ gR = gO := fun h => HG9.out.2.2.2.2 h
        unfold SlV.val at o0
        go_wp2_with fail
        have kA : Keep (fun q => q = gO ∨ q = gR) w4 (((w4.setCell ⟨gO, 1, none⟩ (.slice C t c3)).setCell ⟨gR, 0, none⟩ (.slice s0.a s0.n s0.c)).setCell ⟨gR, 1, none⟩ (.slice C t c3)) :=
          Keep.setCell (S := fun q => q = gO ∨ q = gR) (Keep.setCell (S := fun q => q = gO ∨ q = gR) (Keep.setCell (S := fun q => q = gO ∨ q = gR) (Keep.refl _ w4) (p := ⟨gO, 1, none⟩) (.inl (.inl rfl)) (.slice C t c3)) (p := ⟨gR, 0, none⟩) (.inl (.inr rfl)) (.slice s0.a s0.n s0.c)) (p := ⟨gR, 1, none⟩) (.inl (.inr rfl)) (.slice C t c3)
        have kO : Keep (fun q => q = gO) w4 (w4.setCell ⟨gO, 1, none⟩ (.slice C t c3)) := Keep.setCell (S := fun q => q = gO) (Keep.refl _ w4) (p := ⟨gO, 1, none⟩) (.inl rfl) (.slice C t c3)
        have HF : Hid (Blk _ gR 25 #[.slice s0.a s0.n s0.c, .slice C t c3]) := ((Blk.keep HR4.out kO hne').set 0 (.slice s0.a s0.n s0.c)).set 1 (.slice C t c3)
        have hE9 : Ext w (((w4.setCell ⟨gO, 1, none⟩ (.slice C t c3)).setCell ⟨gR, 0, none⟩ (.slice s0.a s0.n s0.c)).setCell ⟨gR, 1, none⟩ (.slice C t c3)) :=
          Ext.setCell' (Ext.setCell' (Ext.setCell' HE4.out (p := ⟨gO, 1, none⟩) HG9.out.2.2.1 (.slice C t c3)) (p := ⟨gR, 0, none⟩) HG9.out.2.1 (.slice s0.a s0.n s0.c)) (p := ⟨gR, 1, none⟩) HG9.out.2.1 (.slice C t c3)
        have hW9 := ownsRow_keep HW4.out kA (fun q hq hs => hs.elim (fun h => row_apart HW4.out HO4.out (by decide) (by rw [← h]; exact hq)) (fun h => row_apart HW4.out HR4.out (by decide) (by rw [← h]; exact hq)))
        have hS9 : ∀ z ∈ zs, FragS wB (((w4.setCell ⟨gO, 1, none⟩ (.slice C t c3)).setCell ⟨gR, 0, none⟩ (.slice s0.a s0.n s0.c)).setCell ⟨gR, 1, none⟩ (.slice C t c3)) z.1 z.2 := fun z hz => by
          have h9 := HS4.out z hz
          exact ⟨h9.1, ownsRow_keep h9.2.1 kA (fun q hq hs => hs.elim (fun h => row_apart h9.2.1 HO4.out (by decide) (by rw [← h]; exact hq)) (fun h => row_apart h9.2.1 HR4.out (by decide) (by rw [← h]; exact hq))), h9.2.2⟩
        refine bodyPost_ret (results_cell_row rfl _ _ gR 25 _ (0, 0) _ rfl HF.out Tryz.underlying25 rfl (show (Tryz.prog.info? 25).map (·.size) = some 2 by kernel_rfl)) rfl ?_
        refine ⟨_, rfl, ⟨s0, ⟨C, t, c3⟩, rfl, ⟨?_, ?_⟩, ?_⟩, hE9⟩
        · show FragsAt _ _ ((fa.take 6).map saneFrag)
          rw [← hzm6.out]
          exact frags_ofS (HBs.out.trans hE9) hW9 hS9
        · show Sl _ 67 _ ((ia.take 12).map KnownI.list)
          rw [← htk.out.2, List.map_take]
          exact hSk.out.ext (HBs.out.trans hE9)
        · intro q cs9 W' hq hb9 hk9
          have hX9 : Ext wB W' := hk9.toExt (HBs.out.trans hE9) (fun g hg => by rw [hg]; exact hq)
          refine ⟨?_, ?_⟩
          · show FragsAt _ _ ((fa.take 6).map saneFrag)
            rw [← hzm6.out]
            exact frags_ofS hX9 (ownsRow_keep hW9 hk9 (fun g hg hs => row_apart hW9 hb9 (by decide) (by rw [← hs]; exact hg))) (fun z hz => (hS9 z hz).keepBlk hb9 (by decide) hk9)
          · show Sl _ 67 _ ((ia.take 12).map KnownI.list)
            rw [← htk.out.2, List.map_take]
            exact hSk.out.ext hX9
end Go.Proofs.YtmbgakjkhgdjnaaGreatDoor
