/-
  Knowledge: what it is, and how it lies in memory.
  '==' of items' claims.
  The document's Same of knowledge.
-/
import Derived.Test.YtmbgakjkhgdjnaaGreatDoorQdK
import Derived.Test.YtmbgakjkhgdjnaaGreatDoorQdI
import Derived.Test.YtmbgakjkhgdjnaaGreatDoorFpZk
import Derived.Test.YtmbgakjkhgdjnaaGreatDoorQdC
import Derived.Test.YtmbgakjkhgdjnaaGreatDoorQdM
namespace Go.Proofs.YtmbgakjkhgdjnaaGreatDoor
set_option linter.unusedSimpArgs false
set_option linter.unusedVariables false
open Go.RowKit

/-- A whole claim. -/
structure FragI where
  f : List ClauseI
  v : List Int
  n : List Ver
/-- An item's claim. -/
structure KnownI where
  i : Ver
  v : List Int
  hv : v.length = 65
structure KnowI where
  fs : List FragI
  ks : List KnownI
theorem frag_eq {a b : FragI} : a = b ↔ a.f = b.f ∧ a.v = b.v ∧ a.n = b.n := by cases a; cases b; simp
theorem known_eq {a b : KnownI} : a = b ↔ a.i = b.i ∧ a.v = b.v := by cases a; cases b; simp
theorem know_eq {a b : KnowI} : a = b ↔ a.fs = b.fs ∧ a.ks = b.ks := by cases a; cases b; simp
instance : DecidableEq FragI := fun a b => if h : a.f = b.f ∧ a.v = b.v ∧ a.n = b.n then isTrue (frag_eq.2 h) else isFalse (fun e => h (frag_eq.1 e))
instance : DecidableEq KnownI := fun a b => if h : a.i = b.i ∧ a.v = b.v then isTrue (known_eq.2 h) else isFalse (fun e => h (known_eq.1 e))
instance : DecidableEq KnowI := fun a b => if h : a.fs = b.fs ∧ a.ks = b.ks then isTrue (know_eq.2 h) else isFalse (fun e => h (know_eq.1 e))
/-- A whole claim's 67 cells. -/
structure FragC where
  f : SlV
  v : List Int
  n : SlV
  hv : v.length = 65
def FragC.list (c : FragC) : List Value := [c.f.val] ++ (intsV c.v ++ [c.n.val])
def FragC.arr (c : FragC) : Array Value := c.list.toArray
theorem fragC_len (c : FragC) : c.list.length = 67 := by
  unfold FragC.list
  rw [List.length_append, List.length_append, intsV_len, c.hv]; rfl
theorem fragC_arr (c : FragC) : c.arr.size = 67 := by unfold FragC.arr; rw [List.size_toArray]; exact fragC_len c
theorem fragC_oneL (c : FragC) : ∀ v ∈ c.list, v.oneCell' = true := by
  intro v hv
  unfold FragC.list at hv
  rcases List.mem_append.1 hv with h | h
  · rw [List.mem_singleton.1 h]; rfl
  rcases List.mem_append.1 h with h | h
  · exact intsV_one _ v h
  · rw [List.mem_singleton.1 h]; rfl
theorem fragC_coded : Coded FragC.list 67 := ⟨fragC_len, fragC_oneL⟩
theorem fragC_f (c : FragC) : c.list[0]? = some c.f.val := rfl
theorem fragC_v (c : FragC) (j : Nat) (v : Value) (h : (vecV c.v)[j]? = some v) : c.list[1 + j]? = some v := by
  have h : (intsV c.v)[j]? = some v := by simpa [vecV, intsV] using h
  have hj := (List.getElem?_eq_some_iff.1 h).1
  unfold FragC.list
  rw [List.getElem?_append_right (by simp), show 1 + j - [c.f.val].length = j by simp, List.getElem?_append_left hj]
  exact h
theorem fragC_n (c : FragC) : c.list[66]? = some c.n.val := by
  unfold FragC.list
  rw [List.getElem?_append_right (by simp), List.getElem?_append_right (by rw [intsV_len, c.hv]; simp), intsV_len, c.hv]
  rfl
def KnownI.list (k : KnownI) : List Value := [.int .i64 k.i.by_, .int .i64 k.i.n] ++ intsV k.v
def KnownI.arr (k : KnownI) : Array Value := k.list.toArray
theorem known_len (k : KnownI) : k.list.length = 67 := by
  unfold KnownI.list
  rw [List.length_append, intsV_len, k.hv]; rfl
theorem known_arr (k : KnownI) : k.arr.size = 67 := by unfold KnownI.arr; rw [List.size_toArray]; exact known_len k
theorem known_oneL (k : KnownI) : ∀ v ∈ k.list, v.oneCell' = true := by
  intro v hv
  unfold KnownI.list at hv
  rcases List.mem_append.1 hv with h | h
  · simp only [List.mem_cons, List.not_mem_nil, or_false] at h
    rcases h with rfl | rfl <;> rfl
  · exact intsV_one _ v h
theorem known_coded : Coded KnownI.list 67 := ⟨known_len, known_oneL⟩
theorem known_v (k : KnownI) (j : Nat) (v : Value) (h : (vecV k.v)[j]? = some v) : k.list[2 + j]? = some v := by
  have h : (intsV k.v)[j]? = some v := by simpa [vecV, intsV] using h
  unfold KnownI.list
  rw [List.getElem?_append_right (by simp), show 2 + j - [Value.int .i64 k.i.by_, Value.int .i64 k.i.n].length = j by simp]
  exact h
/-- A claim's cells that read as a claim. -/
def FragAt (w : World) (c : FragC) (x : FragI) : Prop := c.v = x.v ∧ Sl w 3 c.f.val (x.f.map ClauseI.cells) ∧ Sl w 2 c.n.val (x.n.map Ver.cells)
theorem FragAt.ext {w w' : World} {c : FragC} {x : FragI} (h : FragAt w c x) (he : Ext w w') : FragAt w' c x := ⟨h.1, h.2.1.ext he, h.2.2.ext he⟩
/-- A slice that reads as these whole claims. -/
def FragsAt (w : World) (u : Value) (xs : List FragI) : Prop := ∃ cs : List FragC, cs.length = xs.length ∧ (∀ (i : Nat) c x, cs[i]? = some c → xs[i]? = some x → FragAt w c x) ∧ Sl w 67 u (cs.map FragC.list)
theorem FragsAt.ext {w w' : World} {u : Value} {xs : List FragI} (h : FragsAt w u xs) (he : Ext w w') : FragsAt w' u xs := by
  obtain ⟨cs, h1, h2, h3⟩ := h
  exact ⟨cs, h1, fun i c x a b => (h2 i c x a b).ext he, h3.ext he⟩
/-- Knowledge in two slices. -/
def KnowAt (w : World) (u v : Value) (k : KnowI) : Prop := FragsAt w u k.fs ∧ Sl w 67 v (k.ks.map KnownI.list)
theorem KnowAt.ext {w w' : World} {u v : Value} {k : KnowI} (h : KnowAt w u v k) (he : Ext w w') : KnowAt w' u v k := ⟨h.1.ext he, h.2.ext he⟩
theorem FragsAt.nil (w : World) : FragsAt w (.slice none 0 0) [] := ⟨[], rfl, fun i c x h => by simp at h, Sl.nil w 67⟩
end Go.Proofs.YtmbgakjkhgdjnaaGreatDoor
namespace Go.Proofs.YtmbgakjkhgdjnaaGreatDoor
set_option linter.unusedSimpArgs false
set_option linter.unusedVariables false
open Go.RowKit

theorem run_eqItems_vecN (a b : List Int) (w : World) : ∀ is : List Nat, (∀ i ∈ is, i < a.length ∧ i < b.length) → (Op.eqItems 9998 3 1 (vecV a) (vecV b) is).run Tryz.prog w = .ok (decide (∀ i ∈ is, a[i]? = b[i]?)) w
  | [], _ => by simp [Op.eqItems]
  | i :: is, h => by
    obtain ⟨h1, h2⟩ := h i (by simp)
    have ih := run_eqItems_vecN a b w is (fun j hj => h j (by simp [hj]))
    have e1 : a[i]? = some a[i] := List.getElem?_eq_getElem h1
    have e2 : b[i]? = some b[i] := List.getElem?_eq_getElem h2
    have g1 := vecV_get a i _ e1
    have g2 := vecV_get b i _ e2
    generalize a[i] = x at e1 g1
    generalize b[i] = y at e2 g2
    by_cases hxy : x = y
    · subst hxy
      simp [Op.eqItems, part, g1, g2, go_sem, ih, e1, e2]
    · simp [Op.eqItems, part, g1, g2, go_sem, e1, e2, hxy]
theorem run_eq_vecN (a b : List Int) (ha : a.length = 65) (hb : b.length = 65) (w : World) : (Op.equalIn 9999 44 (.agg (vecV a)) (.agg (vecV b))).run Tryz.prog w = .ok (decide (a = b)) w := by
  have hi0 : (Tryz.prog.info? 3).map (fun i => (i.size)) = some 1 := by kernel_rfl
  obtain ⟨i, hi, he⟩ := Option.map_eq_some_iff.1 hi0
  have hc : Tryz.prog.cellsOf 3 = 1 := by kernel_rfl
  rw [run_equalIn_array w 9998 (vecV a) (vecV b) Tryz.underlying44 hi, hc]
  rw [run_eqItems_vecN a b w (List.range 65) (fun i hi => by rw [ha, hb]; simpa using hi)]
  have : (∀ i ∈ List.range 65, a[i]? = b[i]?) ↔ a = b := by
    constructor
    · intro h
      apply List.ext_getElem?
      intro i
      by_cases hi : i < 65
      · exact h i (by simpa using hi)
      · rw [List.getElem?_eq_none (by omega), List.getElem?_eq_none (by omega)]
    · rintro rfl i _; rfl
  rw [decide_eq_decide.2 this]
theorem known_part0 (x : KnownI) : x.arr.extract 0 2 = #[.int .i64 x.i.by_, .int .i64 x.i.n] := by
  unfold KnownI.arr KnownI.list; simp
theorem known_part2 (x : KnownI) : x.arr.extract 2 67 = vecV x.v := by
  unfold KnownI.arr KnownI.list vecV
  apply Array.ext'
  have h := intsV_len x.v
  rw [x.hv] at h
  rw [intsV_len] at h
  simp [intsV]
  exact List.take_of_length_le (by rw [List.length_map, h]; exact Nat.le_refl _)
/-- '==' of items' claims. -/
theorem run_eq_known (x y : KnownI) (w : World) : (Op.equalIn 10000 93 (.agg x.arr) (.agg y.arr)).run Tryz.prog w = .ok (decide (x = y)) w := by
  have hk : decide (x = y) = (decide (x.i.by_ = y.i.by_) && decide (x.i.n = y.i.n) && decide (x.v = y.v)) := by
    rw [Bool.eq_iff_iff]; simp [known_eq]
    intro _; cases x.i; cases y.i; simp
  rw [hk]
  have e := run_eq_vecN x.v y.v x.hv y.hv
  have e' := run_eq_vecN y.v y.v y.hv y.hv
  have p0 := known_part0 x
  have p2 := known_part2 x
  have q0 := known_part0 y
  have q2 := known_part2 y
  have sx := known_arr x
  have sy := known_arr y
  generalize x.arr = X at p0 p2 sx ⊢
  generalize y.arr = Y at q0 q2 sy ⊢
  by_cases h1 : x.i.by_ = y.i.by_ <;> by_cases h2 : x.i.n = y.i.n <;> by_cases h3 : x.v = y.v <;> simp [go_sem, part, p0, p2, q0, q2, e, e', h1, h2, h3, sx, sy]
end Go.Proofs.YtmbgakjkhgdjnaaGreatDoor
namespace Go.Proofs.YtmbgakjkhgdjnaaGreatDoor
set_option linter.unusedSimpArgs false
set_option linter.unusedVariables false
open Go.RowKit

theorem vec_loadVar {w : World} {b off : Nat} {cs : Array Value} (hz : cs.size = 65) (h : ∀ (j : Nat) v, cs[j]? = some v → w.cell? ⟨b, off + j, none⟩ = some v) : (loadVar 44 ⟨b, off, none⟩).run Tryz.prog w = .ok (.agg cs) w := by
  have := run_loadVar_mid (P := Tryz.prog) w b off 44 cs.toList _ (fun j v hv => h j v (by simpa using hv)) Tryz.underlying44 rfl (by rw [Array.length_toList, hz]; exact vec_size)
  simpa using this
theorem known_size : (Tryz.prog.info? 93).map (·.size) = some 67 := by kernel_rfl
theorem known_loadVar {w : World} {b off : Nat} {cs : Array Value} (hz : cs.size = 67) (h : ∀ (j : Nat) v, cs[j]? = some v → w.cell? ⟨b, off + j, none⟩ = some v) : (loadVar 93 ⟨b, off, none⟩).run Tryz.prog w = .ok (.agg cs) w := by
  have := run_loadVar_mid (P := Tryz.prog) w b off 93 cs.toList _ (fun j v hv => h j v (by simpa using hv)) Tryz.underlying93 rfl (by rw [Array.length_toList, hz]; exact known_size)
  simpa using this
set_option maxRecDepth 100000 in
set_option maxHeartbeats 8000000 in
theorem rsame15_c (w : World) (ua va ub vb : Value) (a b : KnowI) (ha : KnowAt w ua va a) (hb : KnowAt w ub vb b) : Calls Tryz.prog 15 #[.agg #[ua, va], .agg #[ub, vb]] w (Ret (.bool (decide (a = b))) w) := by
  obtain ⟨⟨cs, hcl, hca, hcs⟩, hak⟩ := ha
  obtain ⟨⟨ds, hdl, hdb, hds⟩, hbk⟩ := hb
  obtain ⟨A, c1, rfl, h1, h2, h3⟩ := sl_get hcs
  obtain ⟨B, c2, rfl, k1, k2, k3⟩ := sl_get hds
  obtain ⟨C, c3, rfl, p1, p2, p3⟩ := sl_get hak
  obtain ⟨D, c4, rfl, q1, q2, q3⟩ := sl_get hbk
  have HR : Hid ((a ≠ b → decide (a = b) = false) ∧ (a = b → decide (a = b) = true)) := ⟨fun h => decide_eq_false h, fun h => decide_eq_true h⟩
  generalize decide (a = b) = r at HR ⊢
  obtain ⟨fa, ia⟩ := a
  obtain ⟨fb, ib⟩ := b
  dsimp only at *
  clear hcs hds hak hbk
  unfold maxLen at h2 k2 p2 q2
  have HX := hid ((Ext.alloc w (.cells #[.slice A cs.length c1, .slice C ia.length c3] 25)).alloc' (.cells #[.slice B ds.length c2, .slice D ib.length c4] 25))
  by_cases hlf : fa.length = fb.length
  rotate_left
  · have dl : ((cs.length : Int) != ds.length) = true := by simp; omega
    have hr : Hid (r = false) := HR.out.1 (fun e => hlf (by have := (know_eq.1 e).1; dsimp only at this; rw [this]))
    clear h3 k3 p3 q3 HR hca hdb hlf hcl hdl
    go_enter Tryz.func15, Tryz.ntmps15
    go_wp2_with fail
    go_ret
    exact ⟨by rw [hr.out]; rfl, HX.out⟩
  have hlc : cs.length = ds.length := by omega
  have dl : ((cs.length : Int) != ds.length) = false := by simp; omega
  by_cases hli : ia.length = ib.length
  rotate_left
  · have dl2 : ((ia.length : Int) != ib.length) = true := by simp; omega
    have hr : Hid (r = false) := HR.out.1 (fun e => hli (by have := (know_eq.1 e).2; dsimp only at this; rw [this]))
    clear h3 k3 p3 q3 HR hca hdb hlf hcl hdl hlc hli
    go_enter Tryz.func15, Tryz.ntmps15
    go_wp2_with fail
    go_ret
    exact ⟨by rw [hr.out]; rfl, HX.out⟩
  have dl2 : ((ia.length : Int) != ib.length) = false := by simp; omega
  have HB1 := hid ((Blk.new w 25 #[.slice A cs.length c1, .slice C ia.length c3]).alloc (.cells #[.slice B ds.length c2, .slice D ib.length c4] 25))
  have HB2 := hid (Blk.new (w.alloc (.cells #[.slice A cs.length c1, .slice C ia.length c3] 25)) 25 #[.slice B ds.length c2, .slice D ib.length c4])
  rw [World.size_alloc] at HB2
  have H3 := hid h3
  have K3 := hid k3
  have P3 := hid p3
  have Q3 := hid q3
  have HCL := hid hcl
  have HDL := hid hdl
  have HLF := hid hlf
  have HLI := hid hli
  clear h3 k3 p3 q3 hcl hdl hlf hli hlc
  go_enter Tryz.func15, Tryz.ntmps15
  go_wp2_with fail
  generalize (w.alloc (.cells #[.slice A cs.length c1, .slice C ia.length c3] 25)).alloc (.cells #[.slice B ds.length c2, .slice D ib.length c4] 25) = w0 at HB1 HB2 HX ⊢
  go_loopw [5] (fun s5 wr => ∃ k : Nat, k ≤ fa.length ∧ s5 = .int .i64 k ∧ Hid (Ext w0 wr) ∧ Hid (fa.take k = fb.take k)) (fun s5 _ => fa.length - (intOf s5).toNat)
  case atStart => exact ⟨0, by omega, rfl, Ext.refl _, rfl⟩
  case round =>
    obtain ⟨k, hk, rfl, hE, ht⟩ := hrel
    have z0 := (HB1.out.ext hE.out).cell (i := 0) rfl
    have z1 := (HB1.out.ext hE.out).cell (i := 1) rfl
    have z2 := (HB2.out.ext hE.out).cell (i := 0) rfl
    have z3 := (HB2.out.ext hE.out).cell (i := 1) rfl
    have y1 := (HB1.out.ext hE.out).lt
    have y2 := (HB2.out.ext hE.out).lt
    have HXr := hid (HX.out.trans hE.out)
    by_cases hka : k < fa.length
    · have hk1 : k < cs.length := by rw [HCL.out]; exact hka
      have hkb : k < fb.length := by rw [← HLF.out]; exact hka
      have hk2 : k < ds.length := by rw [HDL.out]; exact hkb
      obtain ⟨b1, o1, rfl, lb1, g1⟩ := H3.out (by omega)
      obtain ⟨b2, o2, rfl, lb2, g2⟩ := K3.out (by omega)
      obtain ⟨ea, sfa, sna⟩ := hca k cs[k] fa[k] (List.getElem?_eq_getElem hk1) (List.getElem?_eq_getElem hka)
      obtain ⟨eb, sfb, snb⟩ := hdb k ds[k] fb[k] (List.getElem?_eq_getElem hk2) (List.getElem?_eq_getElem hkb)
      have HNe : Hid (fa[k] ≠ fb[k] → r = false) := fun h => HR.out.1 (fun e => h (by have := (know_eq.1 e).1; dsimp only at this; subst this; rfl))
      have HNx : Hid (fa[k] = fb[k] → fa.take (k + 1) = fb.take (k + 1)) := fun h => by
        rw [List.take_succ_eq_append_getElem hka, List.take_succ_eq_append_getElem hkb, ht.out, h]
      have cf1 := HXr.out.cell (g1 k hk1 0 _ (fragC_f cs[k]))
      have cf2 := HXr.out.cell (g2 k hk2 0 _ (fragC_f ds[k]))
      have cn1 := HXr.out.cell (g1 k hk1 66 _ (fragC_n cs[k]))
      have cn2 := HXr.out.cell (g2 k hk2 66 _ (fragC_n ds[k]))
      have HV1 := hid (fun j v (h : (vecV cs[k].v)[j]? = some v) => (Nat.add_assoc (o1 + k * 67) 1 j) ▸ HXr.out.cell (g1 k hk1 (1 + j) v (fragC_v cs[k] j v h)))
      have HV2 := hid (fun j v (h : (vecV ds[k].v)[j]? = some v) => (Nat.add_assoc (o2 + k * 67) 1 j) ▸ HXr.out.cell (g2 k hk2 (1 + j) v (fragC_v ds[k] j v h)))
      have hz1 := hid (show (vecV cs[k].v).size = 65 by rw [vecV_size]; exact cs[k].hv)
      have hz2 := hid (show (vecV ds[k].v).size = 65 by rw [vecV_size]; exact ds[k].hv)
      have HEq := fun W => run_eq_vec cs[k].v ds[k].v cs[k].hv ds[k].hv W
      have lr1 := Nat.lt_of_lt_of_le lb1 HXr.out.size
      have lr2 := Nat.lt_of_lt_of_le lb2 HXr.out.size
      rw [Nat.add_zero] at cf1 cf2
      rw [ea, eb] at HEq
      rw [ea] at HV1 hz1
      rw [eb] at HV2 hz2
      clear g1 g2 lb1 lb2 ea eb hca hdb H3 K3 P3 Q3 ht HR
      generalize cs[k] = c at cf1 cn1 sfa sna
      generalize ds[k] = d at cf2 cn2 sfb snb
      generalize fa[k] = x at HV1 hz1 HEq HNe HNx sfa sna
      generalize fb[k] = y at HV2 hz2 HEq HNe HNx sfb snb
      obtain ⟨⟨f1, f2, f3⟩, _, ⟨n1, n2, n3⟩, _⟩ := c
      obtain ⟨⟨g1, g2, g3⟩, _, ⟨m1, m2, m3⟩, _⟩ := d
      simp only [SlV.val] at cf1 cf2 cn1 cn2 sfa sna sfb snb
      have HSf := fun W (hW : Ext w W) => hid (requal_c W _ _ x.f y.f (sfa.ext hW) (sfb.ext hW))
      have HSn := fun W (hW : Ext w W) => hid (vsame_c W _ _ x.n y.n (sna.ext hW) (snb.ext hW))
      clear sfa sna sfb snb
      generalize vecV x.v = X at HV1 hz1 HEq
      generalize vecV y.v = Y at HV2 hz2 HEq
      have h0 : Hid (x = y ↔ x.v = y.v ∧ x.n = y.n ∧ x.f = y.f) := by show _ ↔ _; rw [frag_eq]; exact ⟨fun ⟨a, b, c⟩ => ⟨b, c, a⟩, fun ⟨a, b, c⟩ => ⟨c, a, b⟩⟩
      by_cases hv : x.v = y.v
      · rw [decide_eq_true hv] at HEq
        by_cases hn : x.n = y.n
        · rw [decide_eq_true hn] at HSn
          by_cases hf : x.f = y.f
          · rw [decide_eq_true hf] at HSf
            have HNx := hid (HNx.out (h0.out.2 ⟨hv, hn, hf⟩))
            clear HNe h0 hv hn hf
            go_wp2_with fail
            refine wp_region_any_order (by kernel_rfl) (by kernel_rfl) (by kernel_rfl) ?_
            repeat (first
              | (refine AWq.val rfl rfl rfl rfl (fun K hK => ?_); go_big_quiet_op; refine hK _ ?_; clear hK K)
              | (refine AWq.skip rfl rfl rfl ?_; simp only [Act.put, List.setIfInBounds_toArray, List.set_cons_succ, List.set_cons_zero])
              | (refine AWq.call rfl Tryz.func60 (by kernel_rfl) (by kernel_rfl) rfl rfl rfl ?_; apply Exists.intro; refine And.intro (fun wc hc => ?_) ?_; (· (simp only [argsOf, anyAt, ↓reduceIte, Nat.reduceEqDiff, Array.getD_eq_getD_getElem?, List.getElem?_toArray, List.getElem?_cons_succ, List.getElem?_cons_zero, Option.getD_some]; with_reducible exact (HSn _ (HXr.out.trans hc)).out)); simp only [Act.put, List.setIfInBounds_toArray, List.set_cons_succ, List.set_cons_zero])
              | (refine AWq.call rfl Tryz.func61 (by kernel_rfl) (by kernel_rfl) rfl rfl rfl ?_; apply Exists.intro; refine And.intro (fun wc hc => ?_) ?_; (· (simp only [argsOf, anyAt, ↓reduceIte, Nat.reduceEqDiff, Array.getD_eq_getD_getElem?, List.getElem?_toArray, List.getElem?_cons_succ, List.getElem?_cons_zero, Option.getD_some]; with_reducible exact (HSf _ (HXr.out.trans hc)).out)); simp only [Act.put, List.setIfInBounds_toArray, List.set_cons_succ, List.set_cons_zero])
              | (refine AWq.val rfl rfl rfl rfl (fun K hK => ?_); refine quiet_load_at rfl rfl (fun wc hwc => by obtain ⟨E, rfl⟩ := hwc; exact vec_loadVar hz1.out (fun j v hv => (Ext.of_wext _ _).cell (HV1.out j v hv))) (hK _ ?_); clear hK K; simp only [Act.put, List.setIfInBounds_toArray, List.set_cons_succ, List.set_cons_zero])
              | (refine AWq.val rfl rfl rfl rfl (fun K hK => ?_); refine quiet_load_at rfl rfl (fun wc hwc => by obtain ⟨E, rfl⟩ := hwc; exact vec_loadVar hz2.out (fun j v hv => (Ext.of_wext _ _).cell (HV2.out j v hv))) (hK _ ?_); clear hK K; simp only [Act.put, List.setIfInBounds_toArray, List.set_cons_succ, List.set_cons_zero]))
            refine AWq.done rfl rfl rfl (fun w5 x5 => ?_)
            simp only [closeAny, Act.put, List.setIfInBounds_toArray, List.set_cons_succ, List.set_cons_zero]
            go_wp2_with fail
            go_roundw
            case rel => exact ⟨k + 1, by omega, by go_num, hE.out.trans x5, HNx.out⟩
            case measure => simp [intOf]; omega
          · rw [decide_eq_false hf] at HSf
            have HNe := hid (HNe.out (fun e => hf (h0.out.1 e).2.2))
            clear HNx h0 hv hn hf
            go_wp2_with fail
            refine wp_region_any_order (by kernel_rfl) (by kernel_rfl) (by kernel_rfl) ?_
            repeat (first
              | (refine AWq.val rfl rfl rfl rfl (fun K hK => ?_); go_big_quiet_op; refine hK _ ?_; clear hK K)
              | (refine AWq.skip rfl rfl rfl ?_; simp only [Act.put, List.setIfInBounds_toArray, List.set_cons_succ, List.set_cons_zero])
              | (refine AWq.call rfl Tryz.func60 (by kernel_rfl) (by kernel_rfl) rfl rfl rfl ?_; apply Exists.intro; refine And.intro (fun wc hc => ?_) ?_; (· (simp only [argsOf, anyAt, ↓reduceIte, Nat.reduceEqDiff, Array.getD_eq_getD_getElem?, List.getElem?_toArray, List.getElem?_cons_succ, List.getElem?_cons_zero, Option.getD_some]; with_reducible exact (HSn _ (HXr.out.trans hc)).out)); simp only [Act.put, List.setIfInBounds_toArray, List.set_cons_succ, List.set_cons_zero])
              | (refine AWq.call rfl Tryz.func61 (by kernel_rfl) (by kernel_rfl) rfl rfl rfl ?_; apply Exists.intro; refine And.intro (fun wc hc => ?_) ?_; (· (simp only [argsOf, anyAt, ↓reduceIte, Nat.reduceEqDiff, Array.getD_eq_getD_getElem?, List.getElem?_toArray, List.getElem?_cons_succ, List.getElem?_cons_zero, Option.getD_some]; with_reducible exact (HSf _ (HXr.out.trans hc)).out)); simp only [Act.put, List.setIfInBounds_toArray, List.set_cons_succ, List.set_cons_zero])
              | (refine AWq.val rfl rfl rfl rfl (fun K hK => ?_); refine quiet_load_at rfl rfl (fun wc hwc => by obtain ⟨E, rfl⟩ := hwc; exact vec_loadVar hz1.out (fun j v hv => (Ext.of_wext _ _).cell (HV1.out j v hv))) (hK _ ?_); clear hK K; simp only [Act.put, List.setIfInBounds_toArray, List.set_cons_succ, List.set_cons_zero])
              | (refine AWq.val rfl rfl rfl rfl (fun K hK => ?_); refine quiet_load_at rfl rfl (fun wc hwc => by obtain ⟨E, rfl⟩ := hwc; exact vec_loadVar hz2.out (fun j v hv => (Ext.of_wext _ _).cell (HV2.out j v hv))) (hK _ ?_); clear hK K; simp only [Act.put, List.setIfInBounds_toArray, List.set_cons_succ, List.set_cons_zero]))
            refine AWq.done rfl rfl rfl (fun w5 x5 => ?_)
            simp only [closeAny, Act.put, List.setIfInBounds_toArray, List.set_cons_succ, List.set_cons_zero]
            go_wp2_with fail
            go_ret
            exact ⟨by rw [HNe.out]; rfl, HXr.out.trans x5⟩
        · rw [decide_eq_false hn] at HSn
          have HNe := hid (HNe.out (fun e => hn (h0.out.1 e).2.1))
          clear HNx h0 hv hn HSf
          go_wp2_with fail
          refine wp_region_any_order (by kernel_rfl) (by kernel_rfl) (by kernel_rfl) ?_
          repeat (first
            | (refine AWq.val rfl rfl rfl rfl (fun K hK => ?_); go_big_quiet_op; refine hK _ ?_; clear hK K)
            | (refine AWq.skip rfl rfl rfl ?_; simp only [Act.put, List.setIfInBounds_toArray, List.set_cons_succ, List.set_cons_zero])
            | (refine AWq.call rfl Tryz.func60 (by kernel_rfl) (by kernel_rfl) rfl rfl rfl ?_; apply Exists.intro; refine And.intro (fun wc hc => ?_) ?_; (· (simp only [argsOf, anyAt, ↓reduceIte, Nat.reduceEqDiff, Array.getD_eq_getD_getElem?, List.getElem?_toArray, List.getElem?_cons_succ, List.getElem?_cons_zero, Option.getD_some]; with_reducible exact (HSn _ (HXr.out.trans hc)).out)); simp only [Act.put, List.setIfInBounds_toArray, List.set_cons_succ, List.set_cons_zero])
            | (refine AWq.val rfl rfl rfl rfl (fun K hK => ?_); refine quiet_load_at rfl rfl (fun wc hwc => by obtain ⟨E, rfl⟩ := hwc; exact vec_loadVar hz1.out (fun j v hv => (Ext.of_wext _ _).cell (HV1.out j v hv))) (hK _ ?_); clear hK K; simp only [Act.put, List.setIfInBounds_toArray, List.set_cons_succ, List.set_cons_zero])
            | (refine AWq.val rfl rfl rfl rfl (fun K hK => ?_); refine quiet_load_at rfl rfl (fun wc hwc => by obtain ⟨E, rfl⟩ := hwc; exact vec_loadVar hz2.out (fun j v hv => (Ext.of_wext _ _).cell (HV2.out j v hv))) (hK _ ?_); clear hK K; simp only [Act.put, List.setIfInBounds_toArray, List.set_cons_succ, List.set_cons_zero]))
          refine AWq.done rfl rfl rfl (fun w5 x5 => ?_)
          simp only [closeAny, Act.put, List.setIfInBounds_toArray, List.set_cons_succ, List.set_cons_zero]
          go_wp2_with fail
          go_ret
          exact ⟨by rw [HNe.out]; rfl, HXr.out.trans x5⟩
      · rw [decide_eq_false hv] at HEq
        have HNe := hid (HNe.out (fun e => hv (h0.out.1 e).1))
        clear HNx h0 hv HSf HSn
        go_wp2_with fail
        refine wp_region_any_order (by kernel_rfl) (by kernel_rfl) (by kernel_rfl) ?_
        repeat (first
          | (refine AWq.val rfl rfl rfl rfl (fun K hK => ?_); go_big_quiet_op; refine hK _ ?_; clear hK K)
          | (refine AWq.skip rfl rfl rfl ?_; simp only [Act.put, List.setIfInBounds_toArray, List.set_cons_succ, List.set_cons_zero])
          | (refine AWq.val rfl rfl rfl rfl (fun K hK => ?_); refine quiet_load_at rfl rfl (fun wc hwc => by obtain ⟨E, rfl⟩ := hwc; exact vec_loadVar hz1.out (fun j v hv => (Ext.of_wext _ _).cell (HV1.out j v hv))) (hK _ ?_); clear hK K; simp only [Act.put, List.setIfInBounds_toArray, List.set_cons_succ, List.set_cons_zero])
          | (refine AWq.val rfl rfl rfl rfl (fun K hK => ?_); refine quiet_load_at rfl rfl (fun wc hwc => by obtain ⟨E, rfl⟩ := hwc; exact vec_loadVar hz2.out (fun j v hv => (Ext.of_wext _ _).cell (HV2.out j v hv))) (hK _ ?_); clear hK K; simp only [Act.put, List.setIfInBounds_toArray, List.set_cons_succ, List.set_cons_zero]))
        refine AWq.done rfl rfl rfl (fun w5 x5 => ?_)
        simp only [closeAny, Act.put, List.setIfInBounds_toArray, List.set_cons_succ, List.set_cons_zero]
        go_wp2_with fail
        go_ret
        exact ⟨by rw [HNe.out]; rfl, HXr.out.trans x5⟩
    · obtain rfl : k = cs.length := by rw [HCL.out]; omega
      have hfe : fa = fb := by
        have := ht.out
        rw [HCL.out, List.take_length, HLF.out, List.take_length] at this
        exact this
      have HR2 : Hid ((ia ≠ ib → r = false) ∧ (ia = ib → r = true)) := ⟨fun h => HR.out.1 (fun e => h (know_eq.1 e).2), fun h => HR.out.2 (know_eq.2 ⟨hfe, h⟩)⟩
      clear hfe HR ht hca hdb H3 K3
      go_wp2_with fail
      go_loopw [6] (fun s6 wq => ∃ j : Nat, j ≤ ia.length ∧ s6 = .int .i64 j ∧ Hid (Ext wr wq) ∧ Hid (ia.take j = ib.take j)) (fun s6 _ => ia.length - (intOf s6).toNat)
      case atStart => exact ⟨0, by omega, rfl, Ext.refl _, rfl⟩
      case round =>
        obtain ⟨j, hj, rfl, hQ, ht⟩ := hrel
        clear z0 z1 z2 z3 y1 y2
        have hEQ := hid (hE.out.trans hQ.out)
        have z1 := (HB1.out.ext hEQ.out).cell (i := 1) rfl
        have z3 := (HB2.out.ext hEQ.out).cell (i := 1) rfl
        have y1 := (HB1.out.ext hEQ.out).lt
        have y2 := (HB2.out.ext hEQ.out).lt
        have HXq := hid (HX.out.trans hEQ.out)
        by_cases hja : j < ia.length
        · have hjb : j < ib.length := by rw [← HLI.out]; exact hja
          obtain ⟨b1, o1, rfl, lb1, g1⟩ := P3.out (by omega)
          obtain ⟨b2, o2, rfl, lb2, g2⟩ := Q3.out (by omega)
          have HNe : Hid (ia[j] ≠ ib[j] → r = false) := fun h => HR2.out.1 (fun e => h (by subst e; rfl))
          have HNx : Hid (ia[j] = ib[j] → ia.take (j + 1) = ib.take (j + 1)) := fun h => by
            rw [List.take_succ_eq_append_getElem hja, List.take_succ_eq_append_getElem hjb, ht.out, h]
          have HV1 := hid (fun q v (h : ia[j].arr[q]? = some v) => HXq.out.cell (g1 j hja q v (by unfold KnownI.arr at h; simpa using h)))
          have HV2 := hid (fun q v (h : ib[j].arr[q]? = some v) => HXq.out.cell (g2 j hjb q v (by unfold KnownI.arr at h; simpa using h)))
          have hz1 := hid (known_arr ia[j])
          have hz2 := hid (known_arr ib[j])
          have HEq := fun W => run_eq_known ia[j] ib[j] W
          have lr1 := Nat.lt_of_lt_of_le lb1 HXq.out.size
          have lr2 := Nat.lt_of_lt_of_le lb2 HXq.out.size
          clear g1 g2 lb1 lb2 P3 Q3 HR2 ht
          generalize ia[j] = x at HV1 hz1 HEq HNe HNx
          generalize ib[j] = y at HV2 hz2 HEq HNe HNx
          by_cases hv : x = y
          · rw [decide_eq_true hv] at HEq
            have HNx := hid (HNx.out hv)
            clear HNe hv
            generalize x.arr = X at HV1 hz1 HEq
            generalize y.arr = Y at HV2 hz2 HEq
            go_wp2_with fail
            refine wp_region_any_order (by kernel_rfl) (by kernel_rfl) (by kernel_rfl) ?_
            repeat (first
              | (refine AWq.val rfl rfl rfl rfl (fun K hK => ?_); go_big_quiet_op; refine hK _ ?_; clear hK K)
              | (refine AWq.skip rfl rfl rfl ?_; simp only [Act.put, List.setIfInBounds_toArray, List.set_cons_succ, List.set_cons_zero])
              | (refine AWq.val rfl rfl rfl rfl (fun K hK => ?_); refine quiet_load_at rfl rfl (fun wc hwc => by obtain ⟨E, rfl⟩ := hwc; exact known_loadVar hz1.out (fun j v hv => (Ext.of_wext _ _).cell (HV1.out j v hv))) (hK _ ?_); clear hK K; simp only [Act.put, List.setIfInBounds_toArray, List.set_cons_succ, List.set_cons_zero])
              | (refine AWq.val rfl rfl rfl rfl (fun K hK => ?_); refine quiet_load_at rfl rfl (fun wc hwc => by obtain ⟨E, rfl⟩ := hwc; exact known_loadVar hz2.out (fun j v hv => (Ext.of_wext _ _).cell (HV2.out j v hv))) (hK _ ?_); clear hK K; simp only [Act.put, List.setIfInBounds_toArray, List.set_cons_succ, List.set_cons_zero]))
            refine AWq.done rfl rfl rfl (fun w5 x5 => ?_)
            simp only [closeAny, Act.put, List.setIfInBounds_toArray, List.set_cons_succ, List.set_cons_zero]
            go_wp2_with fail
            go_roundw
            case rel => exact ⟨j + 1, by omega, by go_num, hQ.out.trans x5, HNx.out⟩
            case measure => simp [intOf]; omega
          · rw [decide_eq_false hv] at HEq
            have HNe := hid (HNe.out hv)
            clear HNx hv
            generalize x.arr = X at HV1 hz1 HEq
            generalize y.arr = Y at HV2 hz2 HEq
            go_wp2_with fail
            refine wp_region_any_order (by kernel_rfl) (by kernel_rfl) (by kernel_rfl) ?_
            repeat (first
              | (refine AWq.val rfl rfl rfl rfl (fun K hK => ?_); go_big_quiet_op; refine hK _ ?_; clear hK K)
              | (refine AWq.skip rfl rfl rfl ?_; simp only [Act.put, List.setIfInBounds_toArray, List.set_cons_succ, List.set_cons_zero])
              | (refine AWq.val rfl rfl rfl rfl (fun K hK => ?_); refine quiet_load_at rfl rfl (fun wc hwc => by obtain ⟨E, rfl⟩ := hwc; exact known_loadVar hz1.out (fun j v hv => (Ext.of_wext _ _).cell (HV1.out j v hv))) (hK _ ?_); clear hK K; simp only [Act.put, List.setIfInBounds_toArray, List.set_cons_succ, List.set_cons_zero])
              | (refine AWq.val rfl rfl rfl rfl (fun K hK => ?_); refine quiet_load_at rfl rfl (fun wc hwc => by obtain ⟨E, rfl⟩ := hwc; exact known_loadVar hz2.out (fun j v hv => (Ext.of_wext _ _).cell (HV2.out j v hv))) (hK _ ?_); clear hK K; simp only [Act.put, List.setIfInBounds_toArray, List.set_cons_succ, List.set_cons_zero]))
            refine AWq.done rfl rfl rfl (fun w5 x5 => ?_)
            simp only [closeAny, Act.put, List.setIfInBounds_toArray, List.set_cons_succ, List.set_cons_zero]
            go_wp2_with fail
            go_ret
            exact ⟨by rw [HNe.out]; rfl, HXq.out.trans x5⟩
        · obtain rfl : j = ia.length := by omega
          have hr : Hid (r = true) := HR2.out.2 (by have := ht.out; rw [List.take_length, HLI.out, List.take_length] at this; exact this)
          clear HR2 ht P3 Q3
          go_wp2_with fail
          go_ret
          exact ⟨by rw [hr.out]; rfl, HXq.out⟩
end Go.Proofs.YtmbgakjkhgdjnaaGreatDoor
