/-
  light and right of chapter 19 (written by gen_btk.py).
  batch.Cut's closure: a batch is ended.
  Cutting: plain words; l[from:at:at] of a row of entries.
  batch.Cut.
-/
import Derived.Test.YtanflgipdiogaaaDoorQcC
import Derived.Test.YtanflgipdiogaaaDoorPkBk
namespace Go.Proofs.YtanflgipdiogaaaDoor
set_option linter.unusedSimpArgs false
set_option linter.unusedVariables false
open Go.RowKit

attribute [-simp] Tryd.isAgg44 Tryd.sizeOf44
def hasB (e : EntI) : Bool := decide (sizeE e ≠ 0)
def lightE (e : EntI) : Bool := lightU e.u && decide (e.m.p.size ≤ 200)
theorem all_takeG {α : Type} {p : α → Bool} {f : List α} {k : Nat} (h : k < f.length) (h1 : (f.take k).all p = true) (h2 : p f[k] = true) : (f.take (k + 1)).all p = true := by
  rw [List.take_succ_eq_append_getElem h, List.all_append, h1]
  simp [h2]
theorem all_hitG {α : Type} {p : α → Bool} {f : List α} {k : Nat} (h : k < f.length) (h2 : p f[k] = false) : f.all p = false := by
  rw [List.all_eq_false]
  exact ⟨f[k], List.getElem_mem h, by simp [h2]⟩
set_option maxRecDepth 100000 in
set_option maxHeartbeats 4000000 in
theorem right19_c (w : World) (v : Value) (l : List EntI) (h : Sl w 21 v (l.map EntI.cells)) (hok : ∀ e ∈ l, EntOk e) : Calls Tryd.prog 11 #[v] w (Ret (.bool (l.all hasB)) w) := by
  obtain ⟨A, c, hv, h1, h2, h3⟩ := h
  rw [List.length_map] at hv h1 h3
  subst hv
  unfold maxLen at h2
  have HSz := fun W x (hx : x ∈ l) => hid (rsize_c W x (hok x hx))
  have H3 := hid h3
  have HV : Hid (∀ b, l.all hasB = b → l.all hasB = b) := fun _ h => h
  clear h3 hok
  go_enter Tryd.func11, Tryd.ntmps11
  go_wp2_with fail
  go_loopw [3] (fun s3 wr => ∃ k : Nat, k ≤ l.length ∧ s3 = .int .i64 k ∧ Hid (Ext w wr) ∧ Hid ((l.take k).all hasB = true)) (fun s3 _ => l.length - (intOf s3).toNat)
  case atStart => exact ⟨0, by omega, rfl, Ext.refl _, rfl⟩
  case round =>
    obtain ⟨k, hk, rfl, hE, hA⟩ := hrel
    by_cases hlt : k < l.length
    · have d1 : decide ((k : Int) < l.length) = true := decide_eq_true (by omega)
      have d1' : decide (k < l.length) = true := decide_eq_true hlt
      obtain ⟨b, o, rfl, lb, hcell⟩ := H3.out (by omega)
      have HR := hid (ent_at (fun k x j u hx hu => hE.out.cell (hcell k x j u hx hu)) hlt)
      have HC := fun W => HSz W l[k] (List.getElem_mem hlt)
      have HT := hid (fun h => all_takeG (p := hasB) hlt hA.out h)
      have HF := hid (fun h => all_hitG (p := hasB) hlt h)
      clear hcell H3 HSz hA lb
      generalize l[k] = x at HR HC HT HF
      have hz := hid (arr_size x)
      unfold hasB at HT HF
      generalize sizeE x = sx at HC HT HF
      generalize x.arr = arr at HR HC hz
      go_wp2_with fail
      simp only [Tryd.sizeOf44, Result.andThen]
      rw [Oper.upon_value]
      go_wp2_with fail
      simp only [Tryd.isAgg44, Tryd.sizeOf44, Result.andThen, ↓reduceIte, run_loadCells_at HR.out 21 hz.out]
      rw [Oper.upon_value]
      go_wp2_with fail
      refine ((HC _).out).mono ?_
      rintro en w3 ⟨rfl, x3⟩
      have HE3 := hid (hE.out.trans x3)
      clear x3 HR HC
      by_cases h0 : sx = 0
      · have hF := hid (HF.out (by simp [h0]))
        have d2 : ((sx : Int) == 0) = true := by simp [h0]
        clear h0 HT HF
        go_wp2_with fail
        go_ret
        exact ⟨by (have hq : l.all hasB = false := hF.out); rw [hq]; rfl, HE3.out⟩
      · have hT := hid (HT.out (by simp [h0]))
        have d2 : ((sx : Int) == 0) = false := by simp [h0]
        clear h0 HT HF
        go_wp2_with fail
        go_roundw
        case rel => exact ⟨k + 1, by omega, by go_num, HE3, hT⟩
        case measure => simp [intOf]; omega
    · obtain rfl : k = l.length := by omega
      rw [List.take_length] at hA
      clear hlt hk HSz H3
      go_wp2_with fail
      go_ret
      exact ⟨by rw [hA.out]; rfl, hE.out⟩
set_option maxRecDepth 100000 in
set_option maxHeartbeats 4000000 in
theorem light19_c (w : World) (v : Value) (l : List EntI) (h : Sl w 21 v (l.map EntI.cells)) : Calls Tryd.prog 8 #[v] w (Ret (.bool (l.all lightE && decide (l.length ≤ 60))) w) := by
  obtain ⟨A, c, hv, h1, h2, h3⟩ := h
  rw [List.length_map] at hv h1 h3
  subst hv
  unfold maxLen at h2
  have HLt := fun W u => hid (light16_c W u)
  unfold UpdI.val at HLt
  have H3 := hid h3
  clear h3
  have HFin : Hid (∀ b, l.all lightE = b → (l.all lightE && decide (l.length ≤ 60)) = (b && decide (l.length ≤ 60))) := fun b h => by rw [h]
  generalize hres : (l.all lightE && decide (l.length ≤ 60)) = res at HFin ⊢
  clear hres
  go_enter Tryd.func8, Tryd.ntmps8
  go_wp2_with fail
  go_loopw [3] (fun s3 wr => ∃ k : Nat, k ≤ l.length ∧ s3 = .int .i64 k ∧ Hid (Ext w wr) ∧ Hid ((l.take k).all lightE = true)) (fun s3 _ => l.length - (intOf s3).toNat)
  case atStart => exact ⟨0, by omega, rfl, Ext.refl _, rfl⟩
  case round =>
    obtain ⟨k, hk, rfl, hE, hA⟩ := hrel
    by_cases hlt : k < l.length
    · have d1 : decide ((k : Int) < l.length) = true := decide_eq_true (by omega)
      have d1' : decide (k < l.length) = true := decide_eq_true hlt
      obtain ⟨b, o, rfl, lb, hcell⟩ := H3.out (by omega)
      have HR := hid (ent_at (fun k x j u hx hu => hE.out.cell (hcell k x j u hx hu)) hlt)
      have lbr := Nat.lt_of_lt_of_le lb hE.out.size
      have HT := hid (fun h => all_takeG (p := lightE) hlt hA.out h)
      have HF := hid (fun h => all_hitG (p := lightE) hlt h)
      clear hcell H3 hA lb
      generalize l[k] = e at HR HT HF
      have HC := fun W => HLt W e.u
      have c1 := HR.out 1 (.int .i64 e.u.item.by_) rfl
      have c2 := HR.out 2 (.int .i64 e.u.item.n) rfl
      have c3 := HR.out 3 (.int .i64 e.u.st.v.by_) rfl
      have c4 := HR.out 4 (.int .i64 e.u.st.v.n) rfl
      have c5 := HR.out 5 (.int .i64 e.u.st.time) rfl
      have c6 := HR.out 6 (.string e.u.p) rfl
      have c7 := HR.out 7 (.string e.u.d) rfl
      have c8 := HR.out 8 (.bool e.u.dead) rfl
      unfold lightE at HT HF
      generalize lightU e.u = lu at HC HT HF
      go_wp2_with fail
      simp only [Tryd.sizeOf44, Result.andThen]
      rw [Oper.upon_value]
      go_wp2_with fail
      refine ((HC _).out).mono ?_
      rintro en w3 ⟨rfl, x3⟩
      have HE3 := hid (hE.out.trans x3)
      have c14 := x3.cell (HR.out 14 (.string e.m.p) rfl)
      have lb3 := Nat.lt_of_lt_of_le lbr x3.size
      clear x3 c1 c2 c3 c4 c5 c6 c7 c8 HR HC HLt
      cases lu with
      | false =>
        have hF := hid (HFin.out false (HF.out rfl))
        rw [Bool.false_and] at hF
        clear HT HF c14 HFin
        go_wp2_with fail
        go_ret
        exact ⟨by rw [hF.out]; rfl, HE3.out⟩
      | true =>
        by_cases hb : e.m.p.size ≤ 200
        · have d2 : decide (200 < e.m.p.size) = false := decide_eq_false (by omega)
          have d2' : decide ((200 : Int) < e.m.p.size) = false := decide_eq_false (by omega)
          have hT := hid (HT.out (by simp [hb]))
          clear hb HT HF
          go_wp2_with fail
          simp only [Tryd.sizeOf44, Result.andThen]
          rw [Oper.upon_value]
          go_wp2_with fail
          go_roundw
          case rel => exact ⟨k + 1, by omega, by go_num, HE3, hT⟩
          case measure => simp [intOf]; omega
        · have d2 : decide (200 < e.m.p.size) = true := decide_eq_true (by omega)
          have d2' : decide ((200 : Int) < e.m.p.size) = true := decide_eq_true (by omega)
          have hF := hid (HFin.out false (HF.out (by simp [hb])))
          rw [Bool.false_and] at hF
          clear hb HT HF HFin
          go_wp2_with fail
          simp only [Tryd.sizeOf44, Result.andThen]
          rw [Oper.upon_value]
          go_wp2_with fail
          go_ret
          exact ⟨by rw [hF.out]; rfl, HE3.out⟩
    · obtain rfl : k = l.length := by omega
      rw [List.take_length] at hA
      have hF := hid (HFin.out true hA.out)
      rw [Bool.true_and] at hF
      clear hlt hk H3 HLt HFin hA
      by_cases h60 : l.length ≤ 60
      · have d2 : decide ((l.length : Int) ≤ 60) = true := decide_eq_true (by omega)
        have d2' : decide (l.length ≤ 60) = true := decide_eq_true h60
        rw [d2'] at hF
        clear h60
        go_wp2_with fail
        go_ret
        exact ⟨by rw [hF.out]; rfl, hE.out⟩
      · have d2 : decide ((l.length : Int) ≤ 60) = false := decide_eq_false (by omega)
        have d2' : decide (l.length ≤ 60) = false := decide_eq_false h60
        rw [d2'] at hF
        clear h60
        go_wp2_with fail
        go_ret
        exact ⟨by rw [hF.out]; rfl, hE.out⟩
end Go.Proofs.YtanflgipdiogaaaDoor
namespace Go.Proofs.YtanflgipdiogaaaDoor
set_option linter.unusedSimpArgs false
set_option linter.unusedVariables false
open Go.RowKit

/-- A slice by its three words. -/
structure SlV where
  a : Option Addr
  n : Nat
  c : Nat
def SlV.val (s : SlV) : Value := .slice s.a s.n s.c
def SlV.cells (s : SlV) : List Value := [.slice s.a s.n s.c]
theorem slv_coded : Coded SlV.cells 1 := ⟨fun _ => rfl, fun a u hu => by simp [SlV.cells] at hu; rcases hu with rfl; rfl⟩
theorem sle_info : (Tryd.prog.info? 22).map (fun i => (i.zero, i.size, i.bytes)) = some (some (.slice none 0 0), 1, 24) := by kernel_rfl
theorem sle_elem : Elem Tryd.prog 25 22 1 24 := by
  obtain ⟨i0, h0, h1, h2, h3⟩ := info_parts sle_info
  exact ⟨Tryd.underlying25, i0, _, h0, h1, h2, h3, rfl⟩
set_option maxRecDepth 100000 in
set_option maxHeartbeats 8000000 in
theorem cutend_c (w : World) (q g B : Nat) (A : Option Addr) (n c : Nat) (o : Value) (vs : List SlV) (fr at_ : Nat) (z : Int) (A' : Option Addr) (hg : g < q) (ho : Blk w q 25 #[o]) (hl : Blk w g 22 #[.slice A n c]) (hf : Blk w (q + 1) 3 #[.int .i64 fr]) (hn : Blk w (q + 1 + 1) 3 #[.int .i64 z]) (hr : w.ownsRow B 22 1 o vs.length (vs.map SlV.cells).flatten) (hB : q + 3 ≤ B) (hBw : B ≤ w.heap.size) (hvs : vs.length ≤ 100000)
    (hle : fr ≤ at_ ∧ at_ ≤ n ∧ n ≤ c ∧ c ≤ maxLen) (hrun : ∀ W, (Instr.slice 22 (.slice A n c) (some (.int .i64 fr)) (some (.int .i64 at_)) (some (.int .i64 at_))).run Tryd.prog W = .ok (.slice A' (at_ - fr) (at_ - fr)) W) :
    Calls Tryd.prog 34 #[.int .i64 at_, .pointer (some ⟨q, 0, none⟩), .pointer (some ⟨g, 0, none⟩), .pointer (some ⟨q + 1, 0, none⟩), .pointer (some ⟨q + 1 + 1, 0, none⟩)] w (fun en w' => en = .returned (.tuple #[]) ∧ ∃ o', Blk w' q 25 #[o'] ∧ Blk w' g 22 #[.slice A n c] ∧ Blk w' (q + 1) 3 #[.int .i64 at_] ∧ Blk w' (q + 1 + 1) 3 #[.int .i64 0] ∧ w'.ownsRow B 22 1 o' (vs ++ [(⟨A', at_ - fr, at_ - fr⟩ : SlV)]).length ((vs ++ [(⟨A', at_ - fr, at_ - fr⟩ : SlV)]).map SlV.cells).flatten ∧ Keep (fun k => q ≤ k) w w') := by
  have c0 := ho.cell (i := 0) (v := o) rfl
  have c1 := hl.cell (i := 0) (v := .slice A n c) rfl
  have c2 := hf.cell (i := 0) (v := .int .i64 fr) rfl
  have l0 := ho.lt
  have l1 := hl.lt
  have l2 := hf.lt
  have HO := hid ho
  have HL := hid hl
  have HF := hid hf
  have HN := hid hn
  have HR := hid hr
  have HBw := hid hBw
  have HBq := hid hB
  clear ho hl hf hn hr hBw hB
  go_enter Tryd.func34, Tryd.ntmps34
  go_wp2_with fail
  refine wp_region_two (pre := ?pre2) (z1 := ?z12) (z2 := ?z22) ?hpre2 ?hz12 ?hz22 (by kernel_rfl) (by kernel_rfl) (by kernel_rfl) (by kernel_rfl) (by kernel_rfl) ?_
  case hpre2 => (simp only [List.dropLast_cons_cons, List.dropLast_singleton]; first | done | exact rfl)
  case hz12 => (simp only [List.dropLast_cons_cons, List.dropLast_singleton, List.getLast?_cons_cons, List.getLast?_singleton]; first | done | exact rfl)
  case hz22 => (simp only [List.getLast?_cons_cons, List.getLast?_singleton]; first | done | exact rfl)
  repeat (first
    | (refine AWq.val rfl rfl rfl rfl (fun K hK => ?_); go_big_quiet_op; refine hK _ ?_; clear hK K)
    | (refine AWq.skip rfl rfl rfl ?_; simp only [Act.put, List.setIfInBounds_toArray, List.set_cons_succ, List.set_cons_zero])
    | (refine AWq.opV (NewSl 22 #[.slice A' (at_ - fr) (at_ - fr)] 1 1) (fun v => NewSl.steady _ _ _ _ v) rfl rfl rfl rfl (fun wc hc => ?_) ?_; (· (have hc' := hc.rule; clear hc; go_simp; dsimp only [Gives]; exact ⟨⟨_, rfl, Blk.new _ _ _⟩, Ext.alloc _ _⟩))))
  refine AWq.two rfl rfl rfl (fun w2 x2 => ?_)
  simp only [closeAny, Act.put, List.setIfInBounds_toArray, List.set_cons_succ, List.set_cons_zero]
  rintro x ⟨gx, rfl, hbx⟩
  have hsl : Sl w2 1 (.slice (some ⟨gx, 0, none⟩) 1 1) ([(⟨A', at_ - fr, at_ - fr⟩ : SlV)].map SlV.cells) := Sl.of_flat hbx ⟨[], by simp [SlV.cells]⟩ (by simp [SlV.cells]) rfl (Nat.le_refl _) (by unfold maxLen; omega)
  have hrow := ownsRow_ext HR.out x2
  have hsz := x2.size
  obtain ⟨v', w3, hrun3, hO3, hk3, _, _⟩ := app_row (ty := 25) sle_elem hrow (Nat.le_trans HBw.out hsz) (src_of_sl Tryd.underlying25 slv_coded hsl (Ext.refl w2)) (by simp only [List.length_singleton]; unfold maxLen; omega) (by simp only [List.length_singleton]; omega)
  have hfar : ∀ k, k < q + 3 → ¬ (o.ownBlock = some k) := fun k hk h => by
    have := (row_block hrow k h).1
    have := HBq.out
    omega
  have HO3 := hid ((HO.out.ext x2).keep hk3 (hfar q (by omega)))
  have HL3 := hid ((HL.out.ext x2).keep hk3 (hfar g (by omega)))
  have HF3 := hid ((HF.out.ext x2).keep hk3 (hfar (q + 1) (by omega)))
  have HN3 := hid ((HN.out.ext x2).keep hk3 (hfar (q + 1 + 1) (by omega)))
  have HR3 : Hid (w3.ownsRow B 22 1 v' (vs ++ [(⟨A', at_ - fr, at_ - fr⟩ : SlV)]).length ((vs ++ [(⟨A', at_ - fr, at_ - fr⟩ : SlV)]).map SlV.cells).flatten) := by
    unfold Hid
    simpa using hO3
  obtain ⟨A3, c3, N3, hv3⟩ : ∃ A3 c3 N3, v' = .slice A3 N3 c3 := by
    obtain ⟨A3, c3, h9, _⟩ := sl_get (code := SlV.cells) (sl_of_row (xs := (vs ++ [(⟨A', at_ - fr, at_ - fr⟩ : SlV)]).map SlV.cells) (slv_coded.sizes _) (by rw [List.length_map]; exact HR3.out))
    exact ⟨_, _, _, h9⟩
  subst hv3
  have HK3 : Hid (Keep (fun k => q ≤ k) w w3) := (Keep.of_ext x2).trans (hk3.mono fun k hk => by
    have := (row_block hrow k hk).1
    have := HBq.out
    omega)
  have HOw : Hid (∀ k, (Value.slice A3 N3 c3).ownBlock = some k → B ≤ k) := fun k hk => (row_block hO3 k hk).1
  clear hO3 hk3 hrow hsl hbx c0 c1 c2 hfar
  have b0 := HO3.out.cell (i := 0) (v := o) rfl
  have z0 := HO3.out.frozen 0
  have m0 := HO3.out.lt
  have HF4 := hid (HF3.out.far (p := ⟨q, 0, none⟩) (by show q + 1 ≠ q; omega) (.slice A3 N3 c3))
  have HN4 := hid (HN3.out.far (p := ⟨q, 0, none⟩) (by show q + 1 + 1 ≠ q; omega) (.slice A3 N3 c3))
  have HL4 := hid (HL3.out.far (p := ⟨q, 0, none⟩) (by show g ≠ q; omega) (.slice A3 N3 c3))
  have HO4 := hid (HO3.out.set 0 (.slice A3 N3 c3))
  have HN5 := hid (HN4.out.far (p := ⟨q + 1, 0, none⟩) (by show q + 1 + 1 ≠ q + 1; omega) (.int .i64 at_))
  have HL5 := hid (HL4.out.far (p := ⟨q + 1, 0, none⟩) (by show g ≠ q + 1; omega) (.int .i64 at_))
  have HO5 := hid (HO4.out.far (p := ⟨q + 1, 0, none⟩) (by show q ≠ q + 1; omega) (.int .i64 at_))
  have HF5 := hid (HF4.out.set 0 (.int .i64 at_))
  have HN6 := hid (HN5.out.set 0 (.int .i64 0))
  have HF6 := hid (HF5.out.far (p := ⟨q + 1 + 1, 0, none⟩) (by show q + 1 ≠ q + 1 + 1; omega) (.int .i64 0))
  have HL6 := hid (HL5.out.far (p := ⟨q + 1 + 1, 0, none⟩) (by show g ≠ q + 1 + 1; omega) (.int .i64 0))
  have HO6 := hid (HO5.out.far (p := ⟨q + 1 + 1, 0, none⟩) (by show q ≠ q + 1 + 1; omega) (.int .i64 0))
  have b2 := HF4.out.cell (i := 0) (v := .int .i64 fr) rfl
  have z2 := HF4.out.frozen 0
  have m2 := HF4.out.lt
  have b3 := HN5.out.cell (i := 0) (v := .int .i64 z) rfl
  have z3 := HN5.out.frozen 0
  have m3 := HN5.out.lt
  have HK6 : Hid (Keep (fun k => q ≤ k) w (((w3.setCell ⟨q, 0, none⟩ (.slice A3 N3 c3)).setCell ⟨q + 1, 0, none⟩ (.int .i64 at_)).setCell ⟨q + 1 + 1, 0, none⟩ (.int .i64 0))) := ((HK3.out.setCell (S := fun k => q ≤ k) (p := ⟨q, 0, none⟩) (.inl (Nat.le_refl q)) (.slice A3 N3 c3)).setCell (S := fun k => q ≤ k) (p := ⟨q + 1, 0, none⟩) (.inl (show q ≤ q + 1 by omega)) _).setCell (S := fun k => q ≤ k) (p := ⟨q + 1 + 1, 0, none⟩) (.inl (show q ≤ q + 1 + 1 by omega)) _
  have HR6 : Hid ((((w3.setCell ⟨q, 0, none⟩ (.slice A3 N3 c3)).setCell ⟨q + 1, 0, none⟩ (.int .i64 at_)).setCell ⟨q + 1 + 1, 0, none⟩ (.int .i64 0)).ownsRow B 22 1 (.slice A3 N3 c3) (vs ++ [(⟨A', at_ - fr, at_ - fr⟩ : SlV)]).length ((vs ++ [(⟨A', at_ - fr, at_ - fr⟩ : SlV)]).map SlV.cells).flatten) := by
    refine ownsRow_keep HR3.out (S := fun k => k < q + 3) ((((Keep.refl _ w3).setCell (S := fun k => k < q + 3) (p := ⟨q, 0, none⟩) (.inl (show q < q + 3 by omega)) (.slice A3 N3 c3)).setCell (S := fun k => k < q + 3) (p := ⟨q + 1, 0, none⟩) (.inl (show q + 1 < q + 3 by omega)) _).setCell (S := fun k => k < q + 3) (p := ⟨q + 1 + 1, 0, none⟩) (.inl (show q + 1 + 1 < q + 3 by omega)) _) fun k hk hS => ?_
    have := HOw.out k hk
    have := HBq.out
    omega
  clear HF3 HN3 HL3 HO3 HF4 HN4 HL4 HO4 HN5 HL5 HO5 HF5 HK3 HR3
  at_builtin
  refine wpList_app rfl (.tmp 6) (.tmp 12) _ _ rfl rfl rfl hrun3 ?_
  go_wp2_with fail
  go_end0
  exact ⟨rfl, _, HO6.out, HL6.out, HF6.out, HN6.out, HR6.out, HK6.out⟩
end Go.Proofs.YtanflgipdiogaaaDoor
namespace Go.Proofs.YtanflgipdiogaaaDoor
set_option linter.unusedSimpArgs false
set_option linter.unusedVariables false
open Go.RowKit

/-- One step of the cut: what is done, what is open, its bytes. -/
def stepC (limit : Int) (st : List (List EntI) × List EntI × Nat) (e : EntI) : List (List EntI) × List EntI × Nat :=
  if 0 < st.2.1.length ∧ (limit < (st.2.2 : Int) + sizeE e ∨ 256 ≤ st.2.1.length) then (st.1 ++ [st.2.1], [e], sizeE e) else (st.1, st.2.1 ++ [e], st.2.2 + sizeE e)
def foldC (limit : Int) (l : List EntI) : List (List EntI) × List EntI × Nat := l.foldl (stepC limit) ([], [], 0)
def cutL (limit : Int) (l : List EntI) : List (List EntI) := (foldC limit l).1 ++ [(foldC limit l).2.1]
theorem foldC_next {limit : Int} {l : List EntI} {k : Nat} (h : k < l.length) : foldC limit (l.take (k + 1)) = stepC limit (foldC limit (l.take k)) l[k] := by
  unfold foldC
  rw [List.take_succ_eq_append_getElem h, List.foldl_append]; rfl
theorem foldC_flat (limit : Int) : ∀ (l : List EntI) (st : List (List EntI) × List EntI × Nat), (l.foldl (stepC limit) st).1.flatten ++ (l.foldl (stepC limit) st).2.1 = st.1.flatten ++ st.2.1 ++ l
  | [], st => by simp
  | e :: l, st => by
    rw [List.foldl_cons, foldC_flat limit l (stepC limit st e)]
    unfold stepC
    split <;> simp
theorem cutL_flat (limit : Int) (l : List EntI) : (cutL limit l).flatten = l := by
  unfold cutL foldC
  rw [List.flatten_append, List.flatten_singleton]
  have := foldC_flat limit l ([], [], 0)
  simpa using this
theorem foldC_parts (limit : Int) (l : List EntI) : (foldC limit l).1.flatten ++ (foldC limit l).2.1 = l := by
  have h := foldC_flat limit l ([], [], 0)
  simpa [foldC] using h
theorem foldC_drop (limit : Int) (l : List EntI) : l.drop (foldC limit l).1.flatten.length = (foldC limit l).2.1 := by
  have h := foldC_parts limit l
  generalize foldC limit l = st at h ⊢
  rw [← h]
  exact List.drop_left' rfl
theorem foldC_ne (limit : Int) : ∀ (l : List EntI) (st : List (List EntI) × List EntI × Nat), (∀ s ∈ st.1, 0 < s.length) → ∀ s ∈ (l.foldl (stepC limit) st).1, 0 < s.length
  | [], st, h => h
  | e :: l, st, h => by
    rw [List.foldl_cons]
    refine foldC_ne limit l _ ?_
    unfold stepC
    split
    · rename_i hc
      intro s hs
      rcases List.mem_append.1 hs with hs | hs
      · exact h s hs
      · rw [List.mem_singleton.1 hs]; exact hc.1
    · exact h
theorem flat_len : ∀ (ss : List (List EntI)), (∀ s ∈ ss, 0 < s.length) → ss.length ≤ ss.flatten.length
  | [], _ => Nat.zero_le _
  | s :: ss, h => by
    have ih := flat_len ss (fun x hx => h x (by simp [hx]))
    have := h s (by simp)
    rw [List.flatten_cons, List.length_append, List.length_cons]; omega
/-- The open batch is the end of what was seen. -/
theorem foldC_cur (limit : Int) (l : List EntI) : ∃ n, n ≤ l.length ∧ (foldC limit l).2.1 = l.drop n ∧ n = (foldC limit l).1.flatten.length := by
  have h := foldC_flat limit l ([], [], 0)
  simp only [List.flatten_nil, List.nil_append] at h
  refine ⟨(foldC limit l).1.flatten.length, ?_, ?_, rfl⟩
  · have := congrArg List.length h
    rw [List.length_append] at this
    unfold foldC; omega
  · have h2 : l.drop (foldC limit l).1.flatten.length = (foldC limit l).2.1 := by
      have h3 : l.drop (foldC limit l).1.flatten.length = ((foldC limit l).1.flatten ++ (foldC limit l).2.1).drop (foldC limit l).1.flatten.length := by
        rw [show (foldC limit l).1.flatten ++ (foldC limit l).2.1 = l from h]
      rw [h3]
      exact List.drop_left' rfl
    exact h2.symm
theorem foldC_sum (limit : Int) : ∀ (l : List EntI) (st : List (List EntI) × List EntI × Nat), st.2.2 = sumE st.2.1 → (l.foldl (stepC limit) st).2.2 = sumE (l.foldl (stepC limit) st).2.1
  | [], st, h => h
  | e :: l, st, h => by
    rw [List.foldl_cons]
    refine foldC_sum limit l _ ?_
    unfold stepC
    split
    · show sizeE e = sumE [e]; simp [sumE]
    · show st.2.2 + sizeE e = sumE (st.2.1 ++ [e])
      rw [h]; simp [sumE]
theorem foldC_size (limit : Int) (l : List EntI) : (foldC limit l).2.2 = sumE (foldC limit l).2.1 := foldC_sum limit l _ rfl
theorem foldC_pos (limit : Int) : ∀ (l : List EntI) (st : List (List EntI) × List EntI × Nat), 0 < st.2.1.length ∨ l ≠ [] → 0 < (l.foldl (stepC limit) st).2.1.length
  | [], st, h => by rcases h with h | h; exact h; exact absurd rfl h
  | e :: l, st, _ => by
    rw [List.foldl_cons]
    refine foldC_pos limit l _ (.inl ?_)
    unfold stepC
    split <;> simp
theorem entsl : Tryd.prog.underlying 22 = some (.slice (Tryd.prog.elem 22)) := by kernel_rfl
theorem entel : Tryd.prog.elem 22 = 44 := by kernel_rfl
theorem slice3 {w : World} {A : Option Addr} {c : Nat} {l : List EntI} (h : Sl w 21 (.slice A l.length c) (l.map EntI.cells)) {fr at_ : Nat} (h1 : fr ≤ at_) (h2 : at_ ≤ l.length) : ∃ A', (∀ W, (Instr.slice 22 (.slice A l.length c) (some (.int .i64 fr)) (some (.int .i64 at_)) (some (.int .i64 at_))).run Tryd.prog W = .ok (.slice A' (at_ - fr) (at_ - fr)) W) ∧ Sl w 21 (.slice A' (at_ - fr) (at_ - fr)) (((l.take at_).drop fr).map EntI.cells) := by
  obtain ⟨A0, c0, hv, g1, g2, g3⟩ := h
  rw [List.length_map] at hv g1 g3
  injection hv with e1 _ e3
  subst e1 e3
  have hc : l.length ≤ c := by omega
  refine ⟨if at_ = fr then A else A.map (·.add (fr * 21)), fun W => ?_, ?_⟩
  · rw [run_slice_any (t := 22) (a := A) (len := l.length) (cap := c) (ht := entsl)]
    have hb : (Instr.sliceBounds true l.length c (some (.int .i64 fr)) (some (.int .i64 at_)) (some (.int .i64 at_))).run Tryd.prog W = .ok (fr, at_, at_) W := by
      have k1 : (fr : Int) ≤ at_ := by omega
      have k2 : (at_ : Int) ≤ c := by omega
      have k3 : (0 : Int) ≤ fr := by omega
      have k4 : (0 : Int) ≤ at_ := by omega
      simp [Instr.sliceBounds, run_sliceBound, h1, k1, k2, k3, k4]
    rw [hb]
    rw [entel]
    simp [Result.andThen, sliced]
  · by_cases he : at_ = fr
    · rw [if_pos he]
      subst he
      refine ⟨A, 0, ?_, ?_, by unfold maxLen; omega, fun h => ?_⟩
      · simp
      · simp
      · exfalso; simp at h
    · rw [if_neg he]
      obtain ⟨b, o, rfl, lb, hcell⟩ := g3 (by omega)
      have hlen : (((l.take at_).drop fr).map EntI.cells).length = at_ - fr := by
        rw [List.length_map, List.length_drop, List.length_take]; omega
      refine ⟨_, at_ - fr, by rw [hlen], by rw [hlen]; omega, by omega, fun _ => ⟨b, o + fr * 21, by rw [Option.map_some, Addr.add_lit], lb, fun i x j u hx hu => ?_⟩⟩
      have hx2 : (l.map EntI.cells)[fr + i]? = some x := by
        rw [List.getElem?_map, List.getElem?_drop, List.getElem?_take] at hx
        split at hx
        · rw [List.getElem?_map]; exact hx
        · cases hx
      have := hcell (fr + i) x j u hx2 hu
      rw [show o + fr * 21 + i * 21 + j = o + (fr + i) * 21 + j by rw [Nat.add_mul]; omega]
      exact this
end Go.Proofs.YtanflgipdiogaaaDoor
namespace Go.Proofs.YtanflgipdiogaaaDoor
set_option linter.unusedSimpArgs false
set_option linter.unusedVariables false
open Go.RowKit

/-- Slices that read as these batches. -/
def SegsAt (w : World) (vs : List SlV) (segs : List (List EntI)) : Prop := vs.length = segs.length ∧ ∀ (i : Nat) (s : SlV) (t : List EntI), vs[i]? = some s → segs[i]? = some t → Sl w 21 s.val (t.map EntI.cells)
theorem SegsAt.ext {w w' : World} {vs : List SlV} {segs : List (List EntI)} (h : SegsAt w vs segs) (he : Ext w w') : SegsAt w' vs segs := ⟨h.1, fun i s t h1 h2 => (h.2 i s t h1 h2).ext he⟩
theorem SegsAt.snoc {w : World} {vs : List SlV} {segs : List (List EntI)} (h : SegsAt w vs segs) {s : SlV} {t : List EntI} (hs : Sl w 21 s.val (t.map EntI.cells)) : SegsAt w (vs ++ [s]) (segs ++ [t]) := by
  refine ⟨by rw [List.length_append, List.length_append, h.1]; rfl, fun i s' t' h1 h2 => ?_⟩
  by_cases hi : i < vs.length
  · rw [List.getElem?_append_left hi] at h1
    rw [List.getElem?_append_left (by rw [← h.1]; exact hi)] at h2
    exact h.2 i s' t' h1 h2
  · have h3 : i < (vs ++ [s]).length := (List.getElem?_eq_some_iff.1 h1).1
    rw [List.length_append, List.length_singleton] at h3
    obtain rfl : i = vs.length := by omega
    rw [List.getElem?_append_right (Nat.le_refl _), Nat.sub_self] at h1
    rw [List.getElem?_append_right (by rw [h.1]; exact Nat.le_refl _), h.1, Nat.sub_self] at h2
    simp at h1 h2
    subst h1 h2
    exact hs
attribute [-simp] Tryd.isAgg44 Tryd.sizeOf44
set_option maxRecDepth 100000 in
set_option maxHeartbeats 2000000 in
theorem cut_bad (w : World) (v : Value) (l : List EntI) (h : Sl w 21 v (l.map EntI.cells)) (limit : Int) (hb : limit < 1 ∨ 4096 < limit) : Calls Tryd.prog 10 #[v, .int .i64 limit] w (Ret (.tuple #[.slice none 0 0, .int .i64 2]) w) := by
  obtain ⟨A, c, hv, _⟩ := h
  rw [List.length_map] at hv
  subst hv
  have HE := hid (Ext.alloc w (.cells #[.slice A l.length c] 22))
  by_cases h1 : limit < 1
  · have d1 : decide (limit < 1) = true := decide_eq_true h1
    clear h1 hb
    go_enter Tryd.func10, Tryd.ntmps10
    go_wp2_with fail
    go_ret2
    exact ⟨rfl, HE.out⟩
  · have d1 : decide (limit < 1) = false := decide_eq_false h1
    have d2 : decide (4096 < limit) = true := decide_eq_true (by omega)
    clear h1 hb
    go_enter Tryd.func10, Tryd.ntmps10
    go_wp2_with fail
    go_ret2
    exact ⟨rfl, HE.out⟩
set_option maxRecDepth 100000 in
set_option maxHeartbeats 8000000 in
theorem cut_c (w : World) (v : Value) (l : List EntI) (limit : Int) (m : Int) (hm : w.cell? ⟨0, 0, none⟩ = some (.int .i64 m)) (h : Sl w 21 v (l.map EntI.cells)) (hl : l.length ≤ 100) (hok : ∀ e ∈ l, EntOk e) (hlim : 1 ≤ limit ∧ limit ≤ 4096) : Calls Tryd.prog 10 #[v, .int .i64 limit] w (fun en w' => (l.all hasB = false ∧ en = .returned (.tuple #[.slice none 0 0, .int .i64 2]) ∧ Ext w w') ∨ (l.all hasB = true ∧ ∃ u vs, en = .returned (.tuple #[u, .int .i64 0]) ∧ Sl w' 1 u (vs.map SlV.cells) ∧ SegsAt w' vs (cutL limit l) ∧ Ext w w')) := by
  obtain ⟨A, c, hv, h1, h2, h3⟩ := id h
  rw [List.length_map] at hv h1 h3
  subst hv
  have HSl := hid h
  have d1 : decide (limit < 1) = false := decide_eq_false (by omega)
  have d2 : decide (4096 < limit) = false := decide_eq_false (by omega)
  have d3 : decide ((4096 : Int) < l.length) = false := decide_eq_false (by omega)
  have d3' : decide (4096 < l.length) = false := decide_eq_false (by omega)
  have HSz := fun W (hW : Ext w W) x (hx : x ∈ l) => hid (size_c W x m (hW.cell hm) (hok x hx))
  have HOk := hid hok
  have H3 := hid h3
  have hcm := h2
  unfold maxLen at h2
  clear h h3 hm hok
  obtain ⟨Z, hZ⟩ : ∃ Z : Array Value, entZ = Z := ⟨_, rfl⟩
  have hZs : Z.size = 21 := by rw [← hZ]; rfl
  have HZ := hid hZs
  unfold entZ at hZ
  clear hZs
  have HG0 := hid (((((Blk.new w 22 #[.slice A l.length c]).alloc (.cells #[.slice none 0 0] 25)).alloc (.cells #[.int .i64 0] 3)).alloc (.cells #[.int .i64 0] 3)))
  have HO0 := hid (((Blk.new (w.alloc (.cells #[.slice A l.length c] 22)) 25 #[.slice none 0 0]).alloc (.cells #[.int .i64 0] 3)).alloc (.cells #[.int .i64 0] 3))
  have HF0 := hid ((Blk.new ((w.alloc (.cells #[.slice A l.length c] 22)).alloc (.cells #[.slice none 0 0] 25)) 3 #[.int .i64 0]).alloc (.cells #[.int .i64 0] 3))
  have HN0 := hid (Blk.new (((w.alloc (.cells #[.slice A l.length c] 22)).alloc (.cells #[.slice none 0 0] 25)).alloc (.cells #[.int .i64 0] 3)) 3 #[.int .i64 0])
  have HE0 := hid ((((Ext.alloc w (.cells #[.slice A l.length c] 22)).alloc' (.cells #[.slice none 0 0] 25)).alloc' (.cells #[.int .i64 0] 3)).alloc' (.cells #[.int .i64 0] 3))
  simp only [World.size_alloc] at HO0 HF0 HN0
  go_enter Tryd.func10, Tryd.ntmps10
  go_wp2_with fail
  generalize (((w.alloc (.cells #[.slice A l.length c] 22)).alloc (.cells #[.slice none 0 0] 25)).alloc (.cells #[.int .i64 0] 3)).alloc (.cells #[.int .i64 0] 3) = w0 at HG0 HO0 HF0 HN0 HE0 ⊢
  go_loopw [25] (fun s25 wr => ∃ (k fr n : Nat) (o : Value) (vs : List SlV), k ≤ l.length ∧ s25 = .int .i64 k ∧ fr = (foldC limit (l.take k)).1.flatten.length ∧ n = (foldC limit (l.take k)).2.2 ∧ Hid (Ext w wr) ∧ Hid (Blk wr w.heap.size 22 #[.slice A l.length c]) ∧ Hid (Blk wr (w.heap.size + 1) 25 #[o]) ∧ Hid (Blk wr (w.heap.size + 1 + 1) 3 #[.int .i64 fr]) ∧ Hid (Blk wr (w.heap.size + 1 + 1 + 1) 3 #[.int .i64 n]) ∧ Hid (wr.ownsRow (w.heap.size + 4) 22 1 o vs.length (vs.map SlV.cells).flatten) ∧ Hid (SegsAt w vs (foldC limit (l.take k)).1) ∧ Hid ((l.take k).all hasB = true)) (fun s25 _ => l.length - (intOf s25).toNat)
  case atStart => exact ⟨0, 0, 0, .slice none 0 0, [], by omega, rfl, rfl, rfl, HE0, HG0, HO0, HF0, HN0, ownsRow_nil _ _ _ _, ⟨rfl, fun i s t h => by simp at h⟩, rfl⟩
  case round =>
    obtain ⟨k, fr, n, o, vs, hk, rfl, hfr, hn, hE, hG, hO, hF, hN, hR, hS, hA⟩ := hrel
    clear HE0 HG0 HO0 HF0 HN0
    by_cases hlt : k < l.length
    · have e1 : decide ((k : Int) < l.length) = true := decide_eq_true (by omega)
      have e1' : decide (k < l.length) = true := decide_eq_true hlt
      obtain ⟨b, o2, rfl, lb, hcell⟩ := H3.out (by omega)
      have HRd := hid (ent_at (fun k x j u hx hu => hE.out.cell (hcell k x j u hx hu)) hlt)
      have HC := fun W (hW : Ext wr W) => HSz W (hE.out.trans hW) l[k] (List.getElem_mem hlt)
      have hs1 := sizeE_le (HOk.out l[k] (List.getElem_mem hlt))
      have hsum := foldC_size limit (l.take k)
      have HM := hid (foldC_next (limit := limit) hlt)
      have HT := hid (fun h => all_takeG (p := hasB) hlt hA.out h)
      have HFl := hid (fun h => all_hitG (p := hasB) hlt h)
      have hcok : ∀ e ∈ (foldC limit (l.take k)).2.1, EntOk e := fun e he => HOk.out e (List.mem_of_mem_take (by
        have h9 : e ∈ l.take k := by
          have h8 := foldC_parts limit (l.take k)
          rw [← h8]; exact List.mem_append_right _ he
        exact h9))
      have hb9 := sumE_le _ hcok
      have h8 := foldC_parts limit (l.take k)
      have hlen8 := congrArg List.length h8
      rw [List.length_append, List.length_take, Nat.min_eq_left hk] at hlen8
      have hdrop := foldC_drop limit (l.take k)
      have hne := flat_len _ (foldC_ne limit (l.take k) ([], [], 0) (fun s hs => by cases hs))
      have hne : (foldC limit (l.take k)).1.length ≤ (foldC limit (l.take k)).1.flatten.length := hne
      generalize hst : foldC limit (l.take k) = st at *
      obtain ⟨done, cur, n0⟩ := st
      dsimp only at *
      subst hfr hn
      have hcur : cur.length ≤ 100 := by omega
      have hb2 : n ≤ 200000 := by omega
      have hfk : done.flatten.length ≤ k := by omega
      obtain ⟨A', hrun, hsl3⟩ := slice3 HSl.out (fr := done.flatten.length) (at_ := k) hfk hk
      rw [hdrop] at hsl3
      have hvsl : vs.length ≤ 100000 := by
        rw [hS.out.1]; omega
      have HCu := fun W (hW : Ext wr W) => hid (cutend_c W (w.heap.size + 1) w.heap.size (w.heap.size + 4) (some ⟨b, o2, none⟩) l.length c o vs done.flatten.length k n A' (by omega) (hO.out.ext hW) (hG.out.ext hW) (hF.out.ext hW) (hN.out.ext hW) (ownsRow_ext hR.out hW) (by omega) (Nat.le_trans (by have := hN.out.lt; omega) hW.size) hvsl ⟨hfk, hk, h1, hcm⟩ hrun)
      have hz := hid (arr_size l[k])
      have HO1 := hid (arr_one l[k])
      have hsx : (decide (sizeE l[k] ≠ 0) = hasB l[k]) := rfl
      have HCk := hid hlen8
      clear hcell H3 HSz HOk hst h8 hlen8 hdrop hne hvsl hcok hb9 lb hsum
      have HSn := hid (fun (h : Sl w 21 (SlV.val ⟨A', k - done.flatten.length, k - done.flatten.length⟩) (cur.map EntI.cells)) => hS.out.snoc h)
      have HSl3 := hid hsl3
      generalize hasB l[k] = hb at HT HFl hsx
      generalize l[k] = x at HRd HC HM hz HO1 hs1 hsx
      unfold stepC at HM
      dsimp only at HM
      generalize hfr : done.flatten.length = fr at *
      have HFr := hid hfr
      clear hfr hsl3
      generalize sizeE x = sx at HC hs1 hsx HM
      have HC' := HC
      clear HC
      generalize x.arr = arr at HRd HC' hz HO1
      go_wp2_with fail
      simp only [Tryd.sizeOf44, Result.andThen]
      rw [Oper.upon_value]
      go_wp2_with fail
      simp only [Tryd.isAgg44, Tryd.sizeOf44, Result.andThen, ↓reduceIte, run_loadCells_at HRd.out 21 hz.out]
      rw [Oper.upon_value]
      go_wp2_with fail
      have HB1 := hid (Blk.new wr 44 Z)
      simp only [Tryd.sizeOf44, Result.andThen, ↓reduceIte, run_storeCells_blk HB1.out (by rw [hz.out]; exact ent_size) (by rw [hz.out, HZ.out]) HO1.out, hz.out]
      rw [Oper.upon_skip]
      rw [World.setRow_alloc_new]
      have HB2 := hid (Blk.new wr 44 arr)
      have HE2 := hid (Ext.alloc wr (.cells arr 44))
      clear HB1
      go_wp2_with fail
      generalize wr.alloc (.cells arr 44) = w2 at HB2 HE2 ⊢
      simp only [Tryd.isAgg44, Tryd.sizeOf44, Result.andThen, ↓reduceIte, run_loadCells_blk HB2.out 21 hz.out]
      rw [Oper.upon_value]
      go_wp2_with fail
      refine ((HC' _ HE2.out).out).mono ?_
      rintro en w3 ⟨rfl, x3⟩
      have HX3 := hid (HE2.out.trans x3)
      have HE3 := hid (hE.out.trans HX3.out)
      have hF3 := hid (hF.out.ext HX3.out)
      have hN3 := hid (hN.out.ext HX3.out)
      have hG3 := hid (hG.out.ext HX3.out)
      have hO3 := hid (hO.out.ext HX3.out)
      have hR3 := hid (ownsRow_ext hR.out HX3.out)
      clear x3 HE2 HB2 HRd HC' hF hN hG hO hR hE
      have c1 := hF3.out.cell (i := 0) (v := .int .i64 fr) rfl
      have c2 := hN3.out.cell (i := 0) (v := .int .i64 n) rfl
      have z2 := hN3.out.frozen 0
      have l1 := hF3.out.lt
      have l2 := hN3.out.lt
      cases hb with
      | false =>
        have h0 : sx = 0 := by simpa using hsx
        have d4 : ((sx : Int) == 0) = true := by simp [h0]
        have hF9 := hid (HFl.out rfl)
        clear h0 hsx HM HSn HT HFl HCu
        go_wp2_with fail
        go_ret2
        exact .inl ⟨hF9.out, rfl, HE3.out⟩
      | true =>
        have h0 : ¬ sx = 0 := by simpa using hsx
        have d4 : ((sx : Int) == 0) = false := by simp [h0]
        have hT9 := hid (HT.out rfl)
        clear h0 hsx HT HFl
        by_cases hcut : fr < k ∧ limit < (n : Int) + sx
        · have p1 : decide (fr < k) = true := decide_eq_true hcut.1
          have p1' : decide ((fr : Int) < k) = true := decide_eq_true (by omega)
          have p2 : decide (limit < (n : Int) + sx) = true := decide_eq_true hcut.2
          have HM' : Hid (foldC limit (l.take (k + 1)) = (done ++ [cur], [x], sx)) := by
            unfold Hid
            rw [HM.out, if_pos ⟨by have := HCk.out; omega, .inl hcut.2⟩]
          clear hcut HM hcur
          go_wp2_with fail
          refine ((HCu _ HX3.out).out).mono ?_
          rintro en w4 ⟨rfl, o', g1, g2, g3, g4, g5, g6⟩
          have HE4 : Hid (Ext w w4) := Ext.of_below (((Keep.of_ext (S := fun k => w.heap.size + 1 ≤ k) HE3.out).trans g6).below (Nat.le_refl _) fun k hk => by omega)
          have hO4 := hid g1
          have hG4 := hid g2
          have hF4 := hid g3
          have hN4 := hid g4
          have hR4 := hid g5
          have hS4 := hid (HSn.out HSl3.out)
          clear g1 g2 g3 g4 g5 g6 HE3 hF3 hN3 hG3 hO3 hR3 c1 c2 z2 l1 l2 HCu HSn HSl3 HX3
          have c2 := hN4.out.cell (i := 0) (v := .int .i64 0) rfl
          have z2 := hN4.out.frozen 0
          have l2 := hN4.out.lt
          have HEf := hid (HE4.out.setCell' (p := ⟨w.heap.size + 1 + 1 + 1, 0, none⟩) (show w.heap.size ≤ w.heap.size + 1 + 1 + 1 by omega) (.int .i64 sx))
          have hGf := hid (hG4.out.far (p := ⟨w.heap.size + 1 + 1 + 1, 0, none⟩) (by show w.heap.size ≠ w.heap.size + 1 + 1 + 1; omega) (.int .i64 sx))
          have hOf := hid (hO4.out.far (p := ⟨w.heap.size + 1 + 1 + 1, 0, none⟩) (by show w.heap.size + 1 ≠ w.heap.size + 1 + 1 + 1; omega) (.int .i64 sx))
          have hFf := hid (hF4.out.far (p := ⟨w.heap.size + 1 + 1 + 1, 0, none⟩) (by show w.heap.size + 1 + 1 ≠ w.heap.size + 1 + 1 + 1; omega) (.int .i64 sx))
          have hNf := hid (hN4.out.set 0 (.int .i64 sx))
          have hRf := hid (ownsRow_keep hR4.out (Keep.setCell (S := fun k => k = w.heap.size + 1 + 1 + 1) (Keep.refl _ _) (p := ⟨w.heap.size + 1 + 1 + 1, 0, none⟩) (.inl rfl) (.int .i64 sx)) (fun q hq hS => by have := (row_block hR4.out q hq).1; omega))
          have hflat : (done ++ [cur]).flatten.length = k := by
            rw [List.flatten_append, List.length_append, List.flatten_singleton, HFr.out]; exact HCk.out
          have HFl2 := hid hflat
          clear hflat
          go_wp2_with fail
          go_roundw
          case rel => exact ⟨k + 1, k, sx, o', _, by omega, by go_num, by rw [HM'.out]; exact HFl2.out.symm, by rw [HM'.out], HEf, hGf, hOf, hFf, hNf, hRf, by rw [HM'.out]; exact hS4, hT9⟩
          case measure => simp [intOf]; omega
        · have HM' : Hid (foldC limit (l.take (k + 1)) = (done, cur ++ [x], n + sx)) := by
            unfold Hid
            rw [HM.out, if_neg]
            rintro ⟨q1, q2⟩
            have := HCk.out
            rcases q2 with q2 | q2
            · exact hcut ⟨by omega, q2⟩
            · omega
          have p3 : ((k : Int) - fr == 256) = false := by
            simp only [beq_eq_false_iff_ne, ne_eq]
            have := HCk.out
            omega
          have p12 : (decide (fr < k) = true ∧ decide ((fr : Int) < k) = true ∧ decide (limit < (n : Int) + sx) = false) ∨ (decide (fr < k) = false ∧ decide ((fr : Int) < k) = false) := by
            by_cases hq : fr < k
            · exact .inl ⟨decide_eq_true hq, decide_eq_true (by omega), decide_eq_false fun h => hcut ⟨hq, h⟩⟩
            · exact .inr ⟨decide_eq_false hq, decide_eq_false (by omega)⟩
          have HEf := hid (HE3.out.setCell' (p := ⟨w.heap.size + 1 + 1 + 1, 0, none⟩) (show w.heap.size ≤ w.heap.size + 1 + 1 + 1 by omega) (.int .i64 ((n : Int) + sx)))
          have hGf := hid (hG3.out.far (p := ⟨w.heap.size + 1 + 1 + 1, 0, none⟩) (by show w.heap.size ≠ w.heap.size + 1 + 1 + 1; omega) (.int .i64 ((n : Int) + sx)))
          have hOf := hid (hO3.out.far (p := ⟨w.heap.size + 1 + 1 + 1, 0, none⟩) (by show w.heap.size + 1 ≠ w.heap.size + 1 + 1 + 1; omega) (.int .i64 ((n : Int) + sx)))
          have hFf := hid (hF3.out.far (p := ⟨w.heap.size + 1 + 1 + 1, 0, none⟩) (by show w.heap.size + 1 + 1 ≠ w.heap.size + 1 + 1 + 1; omega) (.int .i64 ((n : Int) + sx)))
          have hNf := hid (hN3.out.set 0 (.int .i64 ((n : Int) + sx)))
          have hRf := hid (ownsRow_keep hR3.out (Keep.setCell (S := fun k => k = w.heap.size + 1 + 1 + 1) (Keep.refl _ _) (p := ⟨w.heap.size + 1 + 1 + 1, 0, none⟩) (.inl rfl) (.int .i64 ((n : Int) + sx))) (fun q hq hS => by have := (row_block hR3.out q hq).1; omega))
          clear hcut HM hcur HCu HSn HSl3 HE3 hG3 hO3 hF3 hN3 hR3
          rcases p12 with ⟨p1, p1', p2⟩ | ⟨p1, p1'⟩
          · go_wp2_with fail
            go_roundw
            case rel => exact ⟨k + 1, fr, n + sx, o, vs, by omega, by go_num, by rw [HM'.out]; exact HFr.out.symm, by rw [HM'.out], HEf, hGf, hOf, hFf, hNf, hRf, by rw [HM'.out]; exact hS, hT9⟩
            case measure => simp [intOf]; omega
          · go_wp2_with fail
            go_roundw
            case rel => exact ⟨k + 1, fr, n + sx, o, vs, by omega, by go_num, by rw [HM'.out]; exact HFr.out.symm, by rw [HM'.out], HEf, hGf, hOf, hFf, hNf, hRf, by rw [HM'.out]; exact hS, hT9⟩
            case measure => simp [intOf]; omega
    · obtain rfl : k = l.length := by omega
      rw [List.take_length] at hfr hn hS hA
      have h8 := foldC_parts limit l
      have hlen8 := congrArg List.length h8
      rw [List.length_append] at hlen8
      have hdrop := foldC_drop limit l
      have hne := flat_len _ (foldC_ne limit l ([], [], 0) (fun s hs => by cases hs))
      have hne : (foldC limit l).1.length ≤ (foldC limit l).1.flatten.length := hne
      have hcut : cutL limit l = (foldC limit l).1 ++ [(foldC limit l).2.1] := rfl
      generalize hst : foldC limit l = st at *
      obtain ⟨done, cur, n0⟩ := st
      dsimp only at *
      subst hfr hn
      obtain ⟨A', hrun, hsl3⟩ := slice3 HSl.out (fr := done.flatten.length) (at_ := l.length) (by omega) (Nat.le_refl _)
      rw [List.take_length, hdrop] at hsl3
      have HCu := hid (cutend_c wr (w.heap.size + 1) w.heap.size (w.heap.size + 4) A l.length c o vs done.flatten.length l.length n A' (by omega) hO.out hG.out hF.out hN.out hR.out (by omega) (by have := hN.out.lt; omega) (by rw [hS.out.1]; omega) ⟨by omega, Nat.le_refl _, h1, hcm⟩ hrun)
      have hSn := hid (hS.out.snoc (s := ⟨A', l.length - done.flatten.length, l.length - done.flatten.length⟩) hsl3)
      rw [← hcut] at hSn
      have c1 := hG.out.cell (i := 0) (v := .slice A l.length c) rfl
      have l1 := hG.out.lt
      clear hst h8 hlen8 hdrop hne hrun hsl3 hcut hlt hk HSz HOk H3 hF hN hR hO hS hG
      go_wp2_with fail
      refine (HCu.out).mono ?_
      rintro en w4 ⟨rfl, o', g1, g2, g3, g4, g5, g6⟩
      have HE4 : Hid (Ext w w4) := Ext.of_below (((Keep.of_ext (S := fun k => w.heap.size + 1 ≤ k) hE.out).trans g6).below (Nat.le_refl _) fun k hk => by omega)
      have hO4 := hid g1
      have hR4 := hid g5
      clear g1 g2 g3 g4 g5 g6 hE HCu c1 l1
      have hsl := hid (sl_of_row (xs := (vs ++ [(⟨A', l.length - done.flatten.length, l.length - done.flatten.length⟩ : SlV)]).map SlV.cells) (slv_coded.sizes _) (by rw [List.length_map]; exact hR4.out))
      have c0 := hO4.out.cell (i := 0) (v := o') rfl
      have l0 := hO4.out.lt
      go_wp2_with fail
      go_ret2
      exact .inr ⟨hA.out, o', _, rfl, hsl.out, hSn.out.ext HE4.out, HE4.out⟩
end Go.Proofs.YtanflgipdiogaaaDoor
