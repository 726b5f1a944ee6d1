/-
  Which knowledge may be: the document's Right.
  Which knowledge may be: pack.may.
-/
import Derived.Test.YtmbgakjkhgdjnaaGreatDoorQcA
import Derived.Test.YtmbgakjkhgdjnaaGreatDoorUqVk
import Derived.Test.YtmbgakjkhgdjnaaGreatDoorPfAk
import Derived.Test.YtmbgakjkhgdjnaaGreatDoorQbH
import Derived.Test.YtmbgakjkhgdjnaaGreatDoorQbI
namespace Go.Proofs.YtmbgakjkhgdjnaaGreatDoor
set_option linter.unusedSimpArgs false
set_option linter.unusedVariables false
open Go.RowKit

theorem all_takeK {α : Type} {p : α → Bool} {f : List α} {k : Nat} (h : k < f.length) (h1 : (f.take k).all p = true) (h2 : p f[k] = true) : (f.take (k + 1)).all p = true := by
  rw [List.take_succ_eq_append_getElem h, List.all_append, h1]
  simp [h2]
theorem all_hitK {α : Type} {p : α → Bool} {f : List α} {k : Nat} (h : k < f.length) (h2 : p f[k] = false) : f.all p = false := by
  rw [List.all_eq_false]
  exact ⟨f[k], List.getElem_mem h, by simp [h2]⟩
def mayF (x : FragI) : Bool := clausesB x.f && (decide (x.v = cleanL x.v) && itemsB x.n)
def mayN (x : KnownI) : Bool := rightV x.i && decide (x.v = cleanL x.v)
def mayB (k : KnowI) : Bool := k.fs.all mayF && (k.ks.all mayN && (decide (k.fs.length ≤ 64) && decide (k.ks.length ≤ 4096)))
def fragB (x : FragI) : ByteArray := textB (listB clB x.f) ++ textB (listB verB (endsL x.v)) ++ textB (listB verB x.n)
def knownB (x : KnownI) : ByteArray := verB x.i ++ textB (listB verB (endsL x.v))
def knowB (k : KnowI) : ByteArray := textB (listB fragB k.fs) ++ textB (listB knownB k.ks)
/-- Sizes under which the walks go. -/
def fragSz (x : FragI) : Prop := (∀ c ∈ x.f, c.pre.size ≤ 90000) ∧ x.n.length ≤ 90000
attribute [-simp] Tryz.isAgg44 Tryz.sizeOf44
set_option maxRecDepth 100000 in
set_option maxHeartbeats 8000000 in
theorem rright17_c (w : World) (ua va : Value) (a : KnowI) (ha : KnowAt w ua va a) (hs : ∀ x ∈ a.fs, fragSz x) : Calls Tryz.prog 12 #[.agg #[ua, va]] w (Ret (.bool (mayB a)) w) := by
  obtain ⟨⟨cs, hcl, hca, hcs⟩, hak⟩ := ha
  obtain ⟨A, c1, rfl, h1, h2, h3⟩ := sl_get hcs
  obtain ⟨C, c3, rfl, p1, p2, p3⟩ := sl_get hak
  obtain ⟨fa, ia⟩ := a
  have HR : Hid (mayB ⟨fa, ia⟩ = (fa.all mayF && (ia.all mayN && (decide (fa.length ≤ 64) && decide (ia.length ≤ 4096))))) := rfl
  generalize mayB ⟨fa, ia⟩ = r at HR ⊢
  dsimp only at *
  clear hcs hak
  unfold maxLen at h2 p2
  have HX := hid (Ext.alloc w (.cells #[.slice A cs.length c1, .slice C ia.length c3] 25))
  have HB1 := hid (Blk.new w 25 #[.slice A cs.length c1, .slice C ia.length c3])
  have H3 := hid h3
  have P3 := hid p3
  have HCL := hid hcl
  have HS := hid hs
  clear h3 p3 hcl hs
  go_enter Tryz.func12, Tryz.ntmps12
  go_wp2_with fail
  generalize w.alloc (.cells #[.slice A cs.length c1, .slice C ia.length c3] 25) = w0 at HB1 HX ⊢
  go_loopw [3] (fun s3 wr => ∃ k : Nat, k ≤ cs.length ∧ s3 = .int .i64 k ∧ Hid (Ext w0 wr) ∧ Hid ((fa.take k).all mayF = true)) (fun s3 _ => cs.length - (intOf s3).toNat)
  case atStart => exact ⟨0, by omega, rfl, Ext.refl _, rfl⟩
  case round =>
    obtain ⟨k, hk, rfl, hE, ht⟩ := hrel
    have z0 := (HB1.out.ext hE.out).cell (i := 0) rfl
    have z1 := (HB1.out.ext hE.out).cell (i := 1) rfl
    have y1 := (HB1.out.ext hE.out).lt
    have HXr := hid (HX.out.trans hE.out)
    by_cases hk1 : k < cs.length
    · have hka : k < fa.length := by rw [← HCL.out]; exact hk1
      obtain ⟨b1, o1, rfl, lb1, g1⟩ := H3.out (by omega)
      obtain ⟨ea, sfa, sna⟩ := hca k cs[k] fa[k] (List.getElem?_eq_getElem hk1) (List.getElem?_eq_getElem hka)
      have HNe : Hid (mayF fa[k] = false → r = false) := fun h => by show r = false; rw [HR.out, all_hitK hka h]; rfl
      have HNx : Hid (mayF fa[k] = true → (fa.take (k + 1)).all mayF = true) := fun h => all_takeK hka ht.out h
      have hsz := HS.out fa[k] (List.getElem_mem hka)
      have cf1 := HXr.out.cell (g1 k hk1 0 _ (fragC_f cs[k]))
      have cn1 := HXr.out.cell (g1 k hk1 66 _ (fragC_n cs[k]))
      have HV1 := hid (fun j v (h : (vecV cs[k].v)[j]? = some v) => (Nat.add_assoc (o1 + k * 67) 1 j) ▸ HXr.out.cell (g1 k hk1 (1 + j) v (fragC_v cs[k] j v h)))
      have hz1 := hid (show (vecV cs[k].v).size = 65 by rw [vecV_size]; exact cs[k].hv)
      have HRp := fun W => hid (rplain_c W cs[k].v cs[k].hv)
      have lr1 := Nat.lt_of_lt_of_le lb1 HXr.out.size
      rw [Nat.add_zero] at cf1
      rw [ea] at HV1 hz1 HRp
      clear g1 lb1 ea hca H3 P3 ht HR HS
      generalize cs[k] = c at cf1 cn1 sfa sna
      generalize fa[k] = x at HV1 hz1 HNe HNx sfa sna HRp hsz
      obtain ⟨⟨f1, f2, f3⟩, _, ⟨n1, n2, n3⟩, _⟩ := c
      simp only [SlV.val] at cf1 cn1 sfa sna
      have HSf := fun W (hW : Ext w W) => hid (rclauses_c W _ x.f (sfa.ext hW) hsz.1)
      have HSn := fun W (hW : Ext w W) => hid (ritems_c W _ x.n (sna.ext hW) hsz.2)
      clear sfa sna hsz
      unfold mayF at HNe HNx
      generalize vecV x.v = X at HV1 hz1 HRp
      have HE1 := hid hE.out
      clear hE
      go_wp2_with fail
      refine ((HSf _ HXr.out).out).mono ?_
      rintro en w3 ⟨rfl, x3⟩
      have HE3 := hid (HE1.out.trans x3)
      have HX3 := hid (HX.out.trans HE3.out)
      have HV3 := hid (fun j v h => x3.cell (HV1.out j v h))
      have cn3 := x3.cell cn1
      have lr3 := Nat.lt_of_lt_of_le lr1 x3.size
      clear z0 z1 y1 cf1 cn1 lr1 HV1 HSf HE1 HXr x3
      have z0 := (HB1.out.ext HE3.out).cell (i := 0) rfl
      have y1 := (HB1.out.ext HE3.out).lt
      cases e1 : clausesB x.f with
      | false =>
        have HNe := hid (HNe.out (by rw [e1]; rfl))
        clear HNx HSn HRp e1
        go_wp2_with fail
        go_ret
        exact ⟨by rw [HNe.out]; rfl, HX3.out⟩
      | true =>
        go_wp2_with fail
        simp only [Tryz.sizeOf44, Result.andThen]
        rw [if_neg (show ¬ (65 : Nat) = 0 by omega)]
        dsimp only
        rw [Oper.upon_value]
        go_wp2_with fail
        simp only [Tryz.isAgg44, Tryz.sizeOf44, Result.andThen, ↓reduceIte, run_loadCells_at HV3.out 65 hz1.out]
        rw [Oper.upon_value]
        go_wp2_with fail
        refine ((HRp _).out).mono ?_
        rintro en w4 ⟨rfl, x4⟩
        have HE4 := hid (HE3.out.trans x4)
        have HX4 := hid (HX.out.trans HE4.out)
        have cn4 := x4.cell cn3
        have lr4 := Nat.lt_of_lt_of_le lr3 x4.size
        clear z0 y1 cn3 lr3 HV3 HE3 HX3 x4 HRp hz1
        have z0 := (HB1.out.ext HE4.out).cell (i := 0) rfl
        have y1 := (HB1.out.ext HE4.out).lt
        cases e2 : decide (x.v = cleanL x.v) with
        | false =>
          have HNe := hid (HNe.out (by rw [e1, e2]; rfl))
          clear HNx HSn e1 e2
          go_wp2_with fail
          go_ret
          exact ⟨by rw [HNe.out]; rfl, HX4.out⟩
        | true =>
          go_wp2_with fail
          refine ((HSn _ HX4.out).out).mono ?_
          rintro en w5 ⟨rfl, x5⟩
          have HE5 := hid (HE4.out.trans x5)
          clear z0 y1 cn4 lr4 HSn
          cases e3 : itemsB x.n with
          | false =>
            have HNe := hid (HNe.out (by rw [e1, e2, e3]; rfl))
            clear HNx e1 e2 e3
            go_wp2_with fail
            go_ret
            exact ⟨by rw [HNe.out]; rfl, HX.out.trans HE5.out⟩
          | true =>
            have HNx := hid (HNx.out (by rw [e1, e2, e3]; rfl))
            clear HNe e1 e2 e3
            go_wp2_with fail
            go_roundw
            case rel => exact ⟨k + 1, by omega, by go_num, HE5.out, HNx.out⟩
            case measure => simp [intOf]; omega
    · obtain rfl : k = cs.length := by omega
      have hfa : fa.all mayF = true := by
        have := ht.out
        rw [HCL.out, List.take_length] at this
        exact this
      have HR2 : Hid (r = (ia.all mayN && (decide (cs.length ≤ 64) && decide (ia.length ≤ 4096)))) := by
        show r = _
        rw [HR.out, hfa, HCL.out]; rfl
      clear hfa HR ht hca H3 HS
      go_wp2_with fail
      go_loopw [4] (fun s4 wq => ∃ j : Nat, j ≤ ia.length ∧ s4 = .int .i64 j ∧ Hid (Ext wr wq) ∧ Hid ((ia.take j).all mayN = true)) (fun s4 _ => ia.length - (intOf s4).toNat)
      case atStart => exact ⟨0, by omega, rfl, Ext.refl _, rfl⟩
      case round =>
        obtain ⟨j, hj, rfl, hQ, ht⟩ := hrel
        clear z0 z1 y1
        have hEQ := hid (hE.out.trans hQ.out)
        have z0 := (HB1.out.ext hEQ.out).cell (i := 0) rfl
        have z1 := (HB1.out.ext hEQ.out).cell (i := 1) rfl
        have y1 := (HB1.out.ext hEQ.out).lt
        have HXq := hid (HX.out.trans hEQ.out)
        by_cases hja : j < ia.length
        · obtain ⟨b1, o1, rfl, lb1, g1⟩ := P3.out (by omega)
          have HNe : Hid (mayN ia[j] = false → r = false) := fun h => by show r = false; rw [HR2.out, all_hitK hja h]; rfl
          have HNx : Hid (mayN ia[j] = true → (ia.take (j + 1)).all mayN = true) := fun h => all_takeK hja ht.out h
          have ci1 := HXq.out.cell (g1 j hja 0 _ rfl)
          have ci2 := HXq.out.cell (g1 j hja 1 _ rfl)
          have HV1 := hid (fun q v (h : (vecV ia[j].v)[q]? = some v) => (Nat.add_assoc (o1 + j * 67) 2 q) ▸ HXq.out.cell (g1 j hja (2 + q) v (known_v ia[j] q v h)))
          have hz1 := hid (show (vecV ia[j].v).size = 65 by rw [vecV_size]; exact ia[j].hv)
          have HRp := fun W => hid (rplain_c W ia[j].v ia[j].hv)
          have HVr := fun W => hid (vright_c ia[j].i W)
          unfold Ver.val at HVr
          have lr1 := Nat.lt_of_lt_of_le lb1 HXq.out.size
          rw [Nat.add_zero] at ci1
          clear g1 lb1 P3 ht HR2
          generalize ia[j] = x at ci1 ci2 HV1 hz1 HNe HNx HRp HVr
          unfold mayN at HNe HNx
          generalize vecV x.v = X at HV1 hz1 HRp
          have hQ' := hid hQ.out
          clear hQ
          go_wp2_with fail
          refine ((HVr _).out).mono ?_
          rintro en w3 ⟨rfl, x3⟩
          have HE3 := hid (hEQ.out.trans x3)
          have HX3 := hid (HX.out.trans HE3.out)
          have HV3 := hid (fun j v h => x3.cell (HV1.out j v h))
          have lr3 := Nat.lt_of_lt_of_le lr1 x3.size
          have hQ3 := hid (hQ'.out.trans x3)
          clear z0 z1 y1 ci1 ci2 lr1 HV1 HVr hEQ HXq x3 hQ'
          have z1 := (HB1.out.ext HE3.out).cell (i := 1) rfl
          have y1 := (HB1.out.ext HE3.out).lt
          cases e1 : rightV x.i with
          | false =>
            have HNe := hid (HNe.out (by rw [e1]; rfl))
            clear HNx HRp e1
            go_wp2_with fail
            go_ret
            exact ⟨by rw [HNe.out]; rfl, HX3.out⟩
          | true =>
            go_wp2_with fail
            simp only [Tryz.sizeOf44, Result.andThen]
            rw [if_neg (show ¬ (65 : Nat) = 0 by omega)]
            dsimp only
            rw [Oper.upon_value]
            go_wp2_with fail
            simp only [Tryz.isAgg44, Tryz.sizeOf44, Result.andThen, ↓reduceIte, run_loadCells_at HV3.out 65 hz1.out]
            rw [Oper.upon_value]
            go_wp2_with fail
            refine ((HRp _).out).mono ?_
            rintro en w4 ⟨rfl, x4⟩
            have HX4 := hid (HX3.out.trans x4)
            have hQ4 := hid (hQ3.out.trans x4)
            clear z1 y1 lr3 HV3 HE3 HX3 x4 HRp hz1 hQ3
            cases e2 : decide (x.v = cleanL x.v) with
            | false =>
              have HNe := hid (HNe.out (by rw [e1, e2]; rfl))
              clear HNx e1 e2
              go_wp2_with fail
              go_ret
              exact ⟨by rw [HNe.out]; rfl, HX4.out⟩
            | true =>
              have HNx := hid (HNx.out (by rw [e1, e2]; rfl))
              clear HNe e1 e2
              go_wp2_with fail
              go_roundw
              case rel => exact ⟨j + 1, by omega, by go_num, hQ4.out, HNx.out⟩
              case measure => simp [intOf]; omega
        · obtain rfl : j = ia.length := by omega
          have hia : ia.all mayN = true := by
            have := ht.out
            rw [List.take_length] at this
            exact this
          have HR3 : Hid (r = (decide (cs.length ≤ 64) && decide (ia.length ≤ 4096))) := by
            show r = _
            rw [HR2.out, hia]; rfl
          clear hia HR2 ht P3
          by_cases hA : cs.length ≤ 64
          · have t1 : decide ((cs.length : Int) ≤ 64) = true := decide_eq_true (by omega)
            have t1' : decide (cs.length ≤ 64) = true := decide_eq_true hA
            rw [t1', Bool.true_and] at HR3
            go_wp2_with fail
            go_ret
            exact ⟨by rw [HR3.out]; simp; omega, HXq.out⟩
          · have t1 : decide ((cs.length : Int) ≤ 64) = false := decide_eq_false (by omega)
            have t1' : decide (cs.length ≤ 64) = false := decide_eq_false hA
            rw [t1', Bool.false_and] at HR3
            go_wp2_with fail
            go_ret
            exact ⟨by rw [HR3.out]; rfl, HXq.out⟩
end Go.Proofs.YtmbgakjkhgdjnaaGreatDoor
namespace Go.Proofs.YtmbgakjkhgdjnaaGreatDoor
set_option linter.unusedSimpArgs false
set_option linter.unusedVariables false
open Go.RowKit

theorem vec0_len : vec0.length = 65 := by simp [vec0]
def fragZ : Array Value := (FragC.mk nilS vec0 nilS vec0_len).arr
def knownZ : Array Value := (KnownI.mk ⟨0, 0⟩ vec0 vec0_len).arr
theorem frag_zero : Tryz.zeroCells79 = fragZ := by kernel_rfl
theorem known_zero : Tryz.zeroCells93 = knownZ := by kernel_rfl
theorem frag_size : (Tryz.prog.info? 79).map (·.size) = some 67 := by kernel_rfl
theorem fragZ_size : fragZ.size = 67 := fragC_arr _
theorem knownZ_size : knownZ.size = 67 := known_arr _
theorem fragC_oneA (c : FragC) : (c.arr).all (·.oneCell') = true := by
  rw [Array.all_eq_true_iff_forall_mem]
  intro x hx
  exact fragC_oneL c x (by unfold FragC.arr at hx; simpa using hx)
theorem known_oneA (c : KnownI) : (c.arr).all (·.oneCell') = true := by
  rw [Array.all_eq_true_iff_forall_mem]
  intro x hx
  exact known_oneL c x (by unfold KnownI.arr at hx; simpa using hx)
attribute [simp] frag_zero known_zero
attribute [-simp] Tryz.isAgg79 Tryz.sizeOf79 Tryz.isAgg93 Tryz.sizeOf93
set_option maxRecDepth 100000 in
set_option maxHeartbeats 8000000 in
theorem kmay_c (w : World) (ua va : Value) (a : KnowI) (m : Int) (hm : w.cell? ⟨0, 0, none⟩ = some (.int .i64 m)) (ha : KnowAt w ua va a) (hs : ∀ x ∈ a.fs, fragSz x) : Calls Tryz.prog 36 #[.agg #[ua, va]] w (Ret (.bool (mayB a)) w) := by
  obtain ⟨⟨cs, hcl, hca, hcs⟩, hak⟩ := ha
  obtain ⟨A, c1, rfl, h1, h2, h3⟩ := sl_get hcs
  obtain ⟨C, c3, rfl, p1, p2, p3⟩ := sl_get hak
  obtain ⟨fa, ia⟩ := a
  have HR : Hid (mayB ⟨fa, ia⟩ = (fa.all mayF && (ia.all mayN && (decide (fa.length ≤ 64) && decide (ia.length ≤ 4096))))) := rfl
  generalize mayB ⟨fa, ia⟩ = r at HR ⊢
  dsimp only at *
  clear hcs hak
  unfold maxLen at h2 p2
  have HX := hid (Ext.alloc w (.cells #[.slice A cs.length c1, .slice C ia.length c3] 25))
  have HB1 := hid (Blk.new w 25 #[.slice A cs.length c1, .slice C ia.length c3])
  have H3 := hid h3
  have P3 := hid p3
  have HCL := hid hcl
  have HS := hid hs
  have HM := hid hm
  clear h3 p3 hcl hs hm
  go_enter Tryz.func36, Tryz.ntmps36
  go_wp2_with fail
  generalize w.alloc (.cells #[.slice A cs.length c1, .slice C ia.length c3] 25) = w0 at HB1 HX ⊢
  go_loopw [10] (fun s10 wr => ∃ k : Nat, k ≤ cs.length ∧ s10 = .int .i64 k ∧ Hid (Ext w0 wr) ∧ Hid ((fa.take k).all mayF = true)) (fun s10 _ => cs.length - (intOf s10).toNat)
  case atStart => exact ⟨0, by omega, rfl, Ext.refl _, rfl⟩
  case round =>
    obtain ⟨k, hk, rfl, hE, ht⟩ := hrel
    have HXr := hid (HX.out.trans hE.out)
    by_cases hk1 : k < cs.length
    · have hka : k < fa.length := by rw [← HCL.out]; exact hk1
      obtain ⟨b1, o1, rfl, lb1, g1⟩ := H3.out (by omega)
      obtain ⟨ea, sfa, sna⟩ := hca k cs[k] fa[k] (List.getElem?_eq_getElem hk1) (List.getElem?_eq_getElem hka)
      have HNe : Hid (mayF fa[k] = false → r = false) := fun h => by show r = false; rw [HR.out, all_hitK hka h]; rfl
      have HNx : Hid (mayF fa[k] = true → (fa.take (k + 1)).all mayF = true) := fun h => all_takeK hka ht.out h
      have hsz := HS.out fa[k] (List.getElem_mem hka)
      have HG := hid (fun j u (hu : (cs[k].arr)[j]? = some u) => HXr.out.cell (g1 k hk1 j u (by unfold FragC.arr at hu; simpa using hu)))
      have hzs := hid (fragC_arr cs[k])
      have HO := hid (fragC_oneA cs[k])
      have HF0 : Hid ((cs[k].arr)[0]? = some cs[k].f.val) := by unfold Hid FragC.arr; rw [List.getElem?_toArray]; exact fragC_f _
      have HF66 : Hid ((cs[k].arr)[66]? = some cs[k].n.val) := by unfold Hid FragC.arr; rw [List.getElem?_toArray]; exact fragC_n _
      have HFv := hid (fun j v (h : (vecV cs[k].v)[j]? = some v) => (show (cs[k].arr)[1 + j]? = some v by unfold FragC.arr; rw [List.getElem?_toArray]; exact fragC_v cs[k] j v h))
      have hz1 := hid (show (vecV cs[k].v).size = 65 by rw [vecV_size]; exact cs[k].hv)
      have HCl := fun W => hid (clean13_c W cs[k].v cs[k].hv)
      have HEq := fun W => run_eq_vec cs[k].v (cleanL cs[k].v) cs[k].hv (by rw [cleanL_length]; exact cs[k].hv) W
      have lr1 := Nat.lt_of_lt_of_le lb1 HXr.out.size
      rw [ea] at HFv hz1 HCl HEq
      clear g1 lb1 ea hca H3 P3 ht HR HS
      generalize cs[k] = c at HG hzs HO HF0 HF66 HFv sfa sna
      generalize fa[k] = x at HFv hz1 HCl HEq HNe HNx sfa sna hsz
      generalize c.arr = arr at HG hzs HO HF0 HF66 HFv
      obtain ⟨⟨f1, f2, f3⟩, _, ⟨n1, n2, n3⟩, _⟩ := c
      simp only [SlV.val] at HF0 HF66 sfa sna
      have HSf := fun W (hW : Ext w W) => hid (clauses_c W _ x.f m (hW.cell HM.out) (sfa.ext hW) hsz.1)
      have HSn := fun W (hW : Ext w W) => hid (items_c W _ x.n (sna.ext hW) hsz.2)
      clear sfa sna hsz HM
      unfold mayF at HNe HNx
      generalize hcl2 : cleanL x.v = cv at HCl HEq
      have HCv := hid hcl2
      clear hcl2
      generalize hX : vecV x.v = X at HFv hz1 HCl HEq
      clear hX
      generalize vecV cv = CV at HCl HEq
      go_wp2_with fail
      simp only [Tryz.sizeOf79, Result.andThen]
      rw [Oper.upon_value]
      go_wp2_with fail
      simp only [Tryz.isAgg79, Tryz.sizeOf79, Result.andThen, ↓reduceIte, run_loadCells_at HG.out 67 hzs.out]
      rw [Oper.upon_value]
      go_wp2_with fail
      have HB3 := hid (Blk.new wr 79 fragZ)
      simp only [Tryz.sizeOf79, Result.andThen, ↓reduceIte, run_storeCells_blk HB3.out (by rw [hzs.out]; exact frag_size) (by rw [hzs.out, fragZ_size]) HO.out, hzs.out]
      rw [Oper.upon_skip]
      rw [World.setRow_alloc_new]
      have HB2 := hid (Blk.new wr 79 arr)
      have HE2 := hid (hE.out.trans (Ext.alloc wr (.cells arr 79)))
      have HX2 := hid (HXr.out.trans (Ext.alloc wr (.cells arr 79)))
      clear HB3
      generalize wr.alloc (.cells arr 79) = w2 at HB2 HE2 HX2 ⊢
      have cf := HB2.out.cell HF0.out
      have cn := HB2.out.cell HF66.out
      have bl := HB2.out.lt
      have HV2 := hid (fun j v (h : X[j]? = some v) => HB2.out.cell (HFv.out j v h))
      clear HF0 HF66 HFv HG hzs HO HXr hE lr1
      cases e1 : clausesB x.f with
      | false =>
        rw [e1] at HSf
        have HNe := hid (HNe.out (by rw [e1]; rfl))
        clear HNx e1
        go_wp2_with fail
        dsimp only [Act.put]
        refine wp_region_any_order (by kernel_rfl) (by kernel_rfl) (by kernel_rfl) ?_
        repeat (first
          | (refine AWq.val rfl rfl rfl rfl (fun K hK => ?_); go_big_quiet_op; refine hK _ ?_; clear hK K)
          | (refine AWq.skip rfl rfl rfl ?_; simp only [Act.put, List.setIfInBounds_toArray, List.set_cons_succ, List.set_cons_zero])
          | (refine AWq.call rfl Tryz.func96 (by kernel_rfl) (by kernel_rfl) rfl rfl rfl ?_; apply Exists.intro; refine And.intro (fun wc hc => ?_) ?_; (· (simp only [argsOf, anyAt, ↓reduceIte, Nat.reduceEqDiff, Array.getD_eq_getD_getElem?, List.getElem?_toArray, List.getElem?_cons_succ, List.getElem?_cons_zero, Option.getD_some]; with_reducible exact (HSf _ (HX2.out.trans hc)).out)); simp only [Act.put, List.setIfInBounds_toArray, List.set_cons_succ, List.set_cons_zero])
          | (refine AWq.call rfl Tryz.func97 (by kernel_rfl) (by kernel_rfl) rfl rfl rfl ?_; apply Exists.intro; refine And.intro (fun wc hc => ?_) ?_; (· (simp only [argsOf, anyAt, ↓reduceIte, Nat.reduceEqDiff, Array.getD_eq_getD_getElem?, List.getElem?_toArray, List.getElem?_cons_succ, List.getElem?_cons_zero, Option.getD_some]; with_reducible exact (HSn _ (HX2.out.trans hc)).out)); simp only [Act.put, List.setIfInBounds_toArray, List.set_cons_succ, List.set_cons_zero])
          | (refine AWq.call rfl Tryz.func92 (by kernel_rfl) (by kernel_rfl) rfl rfl rfl ?_; apply Exists.intro; refine And.intro (fun wc hc => ?_) ?_; (· (simp only [argsOf, anyAt, ↓reduceIte, Nat.reduceEqDiff, Array.getD_eq_getD_getElem?, List.getElem?_toArray, List.getElem?_cons_succ, List.getElem?_cons_zero, Option.getD_some]; with_reducible exact (HCl _).out)); simp only [Act.put, List.setIfInBounds_toArray, List.set_cons_succ, List.set_cons_zero])
          | (refine AWq.val rfl rfl rfl rfl (fun K hK => ?_); refine quiet_load_at rfl rfl (fun wc hwc => by obtain ⟨E, rfl⟩ := hwc; exact vec_loadVar hz1.out (fun j v hv => (Ext.of_wext _ _).cell (HV2.out j v hv))) (hK _ ?_); clear hK K; simp only [Act.put, List.setIfInBounds_toArray, List.set_cons_succ, List.set_cons_zero]))
        refine AWq.done rfl rfl rfl (fun w5 x5 => ?_)
        simp only [closeAny, Act.put, List.setIfInBounds_toArray, List.set_cons_succ, List.set_cons_zero]
        go_wp2_with fail
        go_ret
        exact ⟨by rw [HNe.out]; rfl, HX2.out.trans x5⟩
      | true =>
        rw [e1] at HSf
        cases e2 : decide (x.v = cv) with
        | false =>
          rw [e2] at HEq
          have HNe := hid (HNe.out (by rw [e1, HCv.out, e2]; rfl))
          clear HNx e1 e2 HCv
          go_wp2_with fail
          dsimp only [Act.put]
          refine wp_region_any_order (by kernel_rfl) (by kernel_rfl) (by kernel_rfl) ?_
          repeat (first
            | (refine AWq.val rfl rfl rfl rfl (fun K hK => ?_); go_big_quiet_op; refine hK _ ?_; clear hK K)
            | (refine AWq.skip rfl rfl rfl ?_; simp only [Act.put, List.setIfInBounds_toArray, List.set_cons_succ, List.set_cons_zero])
            | (refine AWq.call rfl Tryz.func96 (by kernel_rfl) (by kernel_rfl) rfl rfl rfl ?_; apply Exists.intro; refine And.intro (fun wc hc => ?_) ?_; (· (simp only [argsOf, anyAt, ↓reduceIte, Nat.reduceEqDiff, Array.getD_eq_getD_getElem?, List.getElem?_toArray, List.getElem?_cons_succ, List.getElem?_cons_zero, Option.getD_some]; with_reducible exact (HSf _ (HX2.out.trans hc)).out)); simp only [Act.put, List.setIfInBounds_toArray, List.set_cons_succ, List.set_cons_zero])
            | (refine AWq.call rfl Tryz.func97 (by kernel_rfl) (by kernel_rfl) rfl rfl rfl ?_; apply Exists.intro; refine And.intro (fun wc hc => ?_) ?_; (· (simp only [argsOf, anyAt, ↓reduceIte, Nat.reduceEqDiff, Array.getD_eq_getD_getElem?, List.getElem?_toArray, List.getElem?_cons_succ, List.getElem?_cons_zero, Option.getD_some]; with_reducible exact (HSn _ (HX2.out.trans hc)).out)); simp only [Act.put, List.setIfInBounds_toArray, List.set_cons_succ, List.set_cons_zero])
            | (refine AWq.call rfl Tryz.func92 (by kernel_rfl) (by kernel_rfl) rfl rfl rfl ?_; apply Exists.intro; refine And.intro (fun wc hc => ?_) ?_; (· (simp only [argsOf, anyAt, ↓reduceIte, Nat.reduceEqDiff, Array.getD_eq_getD_getElem?, List.getElem?_toArray, List.getElem?_cons_succ, List.getElem?_cons_zero, Option.getD_some]; with_reducible exact (HCl _).out)); simp only [Act.put, List.setIfInBounds_toArray, List.set_cons_succ, List.set_cons_zero])
            | (refine AWq.val rfl rfl rfl rfl (fun K hK => ?_); refine quiet_load_at rfl rfl (fun wc hwc => by obtain ⟨E, rfl⟩ := hwc; exact vec_loadVar hz1.out (fun j v hv => (Ext.of_wext _ _).cell (HV2.out j v hv))) (hK _ ?_); clear hK K; simp only [Act.put, List.setIfInBounds_toArray, List.set_cons_succ, List.set_cons_zero]))
          refine AWq.done rfl rfl rfl (fun w5 x5 => ?_)
          simp only [closeAny, Act.put, List.setIfInBounds_toArray, List.set_cons_succ, List.set_cons_zero]
          go_wp2_with fail
          go_ret
          exact ⟨by rw [HNe.out]; rfl, HX2.out.trans x5⟩
        | true =>
          rw [e2] at HEq
          cases e3 : itemsB x.n with
          | false =>
            rw [e3] at HSn
            have HNe := hid (HNe.out (by rw [e1, HCv.out, e2, e3]; rfl))
            clear HNx e1 e2 e3 HCv
            go_wp2_with fail
            dsimp only [Act.put]
            refine wp_region_any_order (by kernel_rfl) (by kernel_rfl) (by kernel_rfl) ?_
            repeat (first
              | (refine AWq.val rfl rfl rfl rfl (fun K hK => ?_); go_big_quiet_op; refine hK _ ?_; clear hK K)
              | (refine AWq.skip rfl rfl rfl ?_; simp only [Act.put, List.setIfInBounds_toArray, List.set_cons_succ, List.set_cons_zero])
              | (refine AWq.call rfl Tryz.func96 (by kernel_rfl) (by kernel_rfl) rfl rfl rfl ?_; apply Exists.intro; refine And.intro (fun wc hc => ?_) ?_; (· (simp only [argsOf, anyAt, ↓reduceIte, Nat.reduceEqDiff, Array.getD_eq_getD_getElem?, List.getElem?_toArray, List.getElem?_cons_succ, List.getElem?_cons_zero, Option.getD_some]; with_reducible exact (HSf _ (HX2.out.trans hc)).out)); simp only [Act.put, List.setIfInBounds_toArray, List.set_cons_succ, List.set_cons_zero])
              | (refine AWq.call rfl Tryz.func97 (by kernel_rfl) (by kernel_rfl) rfl rfl rfl ?_; apply Exists.intro; refine And.intro (fun wc hc => ?_) ?_; (· (simp only [argsOf, anyAt, ↓reduceIte, Nat.reduceEqDiff, Array.getD_eq_getD_getElem?, List.getElem?_toArray, List.getElem?_cons_succ, List.getElem?_cons_zero, Option.getD_some]; with_reducible exact (HSn _ (HX2.out.trans hc)).out)); simp only [Act.put, List.setIfInBounds_toArray, List.set_cons_succ, List.set_cons_zero])
              | (refine AWq.call rfl Tryz.func92 (by kernel_rfl) (by kernel_rfl) rfl rfl rfl ?_; apply Exists.intro; refine And.intro (fun wc hc => ?_) ?_; (· (simp only [argsOf, anyAt, ↓reduceIte, Nat.reduceEqDiff, Array.getD_eq_getD_getElem?, List.getElem?_toArray, List.getElem?_cons_succ, List.getElem?_cons_zero, Option.getD_some]; with_reducible exact (HCl _).out)); simp only [Act.put, List.setIfInBounds_toArray, List.set_cons_succ, List.set_cons_zero])
              | (refine AWq.val rfl rfl rfl rfl (fun K hK => ?_); refine quiet_load_at rfl rfl (fun wc hwc => by obtain ⟨E, rfl⟩ := hwc; exact vec_loadVar hz1.out (fun j v hv => (Ext.of_wext _ _).cell (HV2.out j v hv))) (hK _ ?_); clear hK K; simp only [Act.put, List.setIfInBounds_toArray, List.set_cons_succ, List.set_cons_zero]))
            refine AWq.done rfl rfl rfl (fun w5 x5 => ?_)
            simp only [closeAny, Act.put, List.setIfInBounds_toArray, List.set_cons_succ, List.set_cons_zero]
            go_wp2_with fail
            go_ret
            exact ⟨by rw [HNe.out]; rfl, HX2.out.trans x5⟩
          | true =>
            rw [e3] at HSn
            have HNx := hid (HNx.out (by rw [e1, HCv.out, e2, e3]; rfl))
            clear HNe e1 e2 e3 HCv
            go_wp2_with fail
            dsimp only [Act.put]
            refine wp_region_any_order (by kernel_rfl) (by kernel_rfl) (by kernel_rfl) ?_
            repeat (first
              | (refine AWq.val rfl rfl rfl rfl (fun K hK => ?_); go_big_quiet_op; refine hK _ ?_; clear hK K)
              | (refine AWq.skip rfl rfl rfl ?_; simp only [Act.put, List.setIfInBounds_toArray, List.set_cons_succ, List.set_cons_zero])
              | (refine AWq.call rfl Tryz.func96 (by kernel_rfl) (by kernel_rfl) rfl rfl rfl ?_; apply Exists.intro; refine And.intro (fun wc hc => ?_) ?_; (· (simp only [argsOf, anyAt, ↓reduceIte, Nat.reduceEqDiff, Array.getD_eq_getD_getElem?, List.getElem?_toArray, List.getElem?_cons_succ, List.getElem?_cons_zero, Option.getD_some]; with_reducible exact (HSf _ (HX2.out.trans hc)).out)); simp only [Act.put, List.setIfInBounds_toArray, List.set_cons_succ, List.set_cons_zero])
              | (refine AWq.call rfl Tryz.func97 (by kernel_rfl) (by kernel_rfl) rfl rfl rfl ?_; apply Exists.intro; refine And.intro (fun wc hc => ?_) ?_; (· (simp only [argsOf, anyAt, ↓reduceIte, Nat.reduceEqDiff, Array.getD_eq_getD_getElem?, List.getElem?_toArray, List.getElem?_cons_succ, List.getElem?_cons_zero, Option.getD_some]; with_reducible exact (HSn _ (HX2.out.trans hc)).out)); simp only [Act.put, List.setIfInBounds_toArray, List.set_cons_succ, List.set_cons_zero])
              | (refine AWq.call rfl Tryz.func92 (by kernel_rfl) (by kernel_rfl) rfl rfl rfl ?_; apply Exists.intro; refine And.intro (fun wc hc => ?_) ?_; (· (simp only [argsOf, anyAt, ↓reduceIte, Nat.reduceEqDiff, Array.getD_eq_getD_getElem?, List.getElem?_toArray, List.getElem?_cons_succ, List.getElem?_cons_zero, Option.getD_some]; with_reducible exact (HCl _).out)); simp only [Act.put, List.setIfInBounds_toArray, List.set_cons_succ, List.set_cons_zero])
              | (refine AWq.val rfl rfl rfl rfl (fun K hK => ?_); refine quiet_load_at rfl rfl (fun wc hwc => by obtain ⟨E, rfl⟩ := hwc; exact vec_loadVar hz1.out (fun j v hv => (Ext.of_wext _ _).cell (HV2.out j v hv))) (hK _ ?_); clear hK K; simp only [Act.put, List.setIfInBounds_toArray, List.set_cons_succ, List.set_cons_zero]))
            refine AWq.done rfl rfl rfl (fun w5 x5 => ?_)
            simp only [closeAny, Act.put, List.setIfInBounds_toArray, List.set_cons_succ, List.set_cons_zero]
            go_wp2_with fail
            go_roundw
            case rel => exact ⟨k + 1, by omega, by go_num, HE2.out.trans x5, HNx.out⟩
            case measure => simp [intOf]; omega
    · obtain rfl : k = cs.length := by omega
      have hfa : fa.all mayF = true := by
        have := ht.out
        rw [HCL.out, List.take_length] at this
        exact this
      have HR2 : Hid (r = (ia.all mayN && (decide (cs.length ≤ 64) && decide (ia.length ≤ 4096)))) := by
        show r = _
        rw [HR.out, hfa, HCL.out]; rfl
      clear hfa HR ht hca H3 HS HM
      have z1 := (HB1.out.ext hE.out).cell (i := 1) rfl
      have y1 := (HB1.out.ext hE.out).lt
      go_wp2_with fail
      clear z1 y1
      go_loopw [36] (fun s36 wq => ∃ j : Nat, j ≤ ia.length ∧ s36 = .int .i64 j ∧ Hid (Ext wr wq) ∧ Hid ((ia.take j).all mayN = true)) (fun s36 _ => ia.length - (intOf s36).toNat)
      case atStart => exact ⟨0, by omega, rfl, Ext.refl _, rfl⟩
      case round =>
        obtain ⟨j, hj, rfl, hQ, ht⟩ := hrel
        have hEQ := hid (hE.out.trans hQ.out)
        have HXq := hid (HX.out.trans hEQ.out)
        by_cases hja : j < ia.length
        · obtain ⟨b1, o1, rfl, lb1, g1⟩ := P3.out (by omega)
          have HNe : Hid (mayN ia[j] = false → r = false) := fun h => by show r = false; rw [HR2.out, all_hitK hja h]; rfl
          have HNx : Hid (mayN ia[j] = true → (ia.take (j + 1)).all mayN = true) := fun h => all_takeK hja ht.out h
          have HG := hid (fun q u (hu : (ia[j].arr)[q]? = some u) => HXq.out.cell (g1 j hja q u (by unfold KnownI.arr at hu; simpa using hu)))
          have hzs := hid (known_arr ia[j])
          have HO := hid (known_oneA ia[j])
          have HF0 : Hid ((ia[j].arr)[0]? = some (.int .i64 ia[j].i.by_)) := rfl
          have HF1 : Hid ((ia[j].arr)[1]? = some (.int .i64 ia[j].i.n)) := rfl
          have HFv := hid (fun q v (h : (vecV ia[j].v)[q]? = some v) => (show (ia[j].arr)[2 + q]? = some v by unfold KnownI.arr; rw [List.getElem?_toArray]; exact known_v ia[j] q v h))
          have hz1 := hid (show (vecV ia[j].v).size = 65 by rw [vecV_size]; exact ia[j].hv)
          have HCl := fun W => hid (clean13_c W ia[j].v ia[j].hv)
          have HEq := fun W => run_eq_vec ia[j].v (cleanL ia[j].v) ia[j].hv (by rw [cleanL_length]; exact ia[j].hv) W
          have HVr := fun W => hid (vcheck_c ia[j].i W)
          unfold Ver.val at HVr
          have lr1 := Nat.lt_of_lt_of_le lb1 HXq.out.size
          clear g1 lb1 P3 ht HR2
          generalize ia[j] = x at HG hzs HO HF0 HF1 HFv hz1 HNe HNx HCl HEq HVr
          generalize x.arr = arr at HG hzs HO HF0 HF1 HFv
          unfold mayN at HNe HNx
          generalize hcl2 : cleanL x.v = cv at HCl HEq
          have HCv := hid hcl2
          clear hcl2
          generalize hX : vecV x.v = X at HFv hz1 HCl HEq
          clear hX
          generalize vecV cv = CV at HCl HEq
          go_wp2_with fail
          simp only [Tryz.sizeOf93, Result.andThen]
          rw [Oper.upon_value]
          go_wp2_with fail
          simp only [Tryz.isAgg93, Tryz.sizeOf93, Result.andThen, ↓reduceIte, run_loadCells_at HG.out 67 hzs.out]
          rw [Oper.upon_value]
          go_wp2_with fail
          have HB3 := hid (Blk.new wr 93 knownZ)
          simp only [Tryz.sizeOf93, Result.andThen, ↓reduceIte, run_storeCells_blk HB3.out (by rw [hzs.out]; exact known_size) (by rw [hzs.out, knownZ_size]) HO.out, hzs.out]
          rw [Oper.upon_skip]
          rw [World.setRow_alloc_new]
          have HB2 := hid (Blk.new wr 93 arr)
          have HE2 := hid (hQ.out.trans (Ext.alloc wr (.cells arr 93)))
          have HX2 := hid (HXq.out.trans (Ext.alloc wr (.cells arr 93)))
          clear HB3
          generalize wr.alloc (.cells arr 93) = w2 at HB2 HE2 HX2 ⊢
          have cf := HB2.out.cell HF0.out
          have cn := HB2.out.cell HF1.out
          have bl := HB2.out.lt
          have HV2 := hid (fun j v (h : X[j]? = some v) => HB2.out.cell (HFv.out j v h))
          clear HF0 HF1 HFv HG hzs HO HXq hEQ lr1 hQ
          cases e1 : rightV x.i with
          | false =>
            rw [checkV_no e1] at HVr
            have HNe := hid (HNe.out (by rw [e1]; rfl))
            clear HNx e1
            go_wp2_with fail
            dsimp only [Act.put]
            refine wp_region_any_order (by kernel_rfl) (by kernel_rfl) (by kernel_rfl) ?_
            repeat (first
              | (refine AWq.val rfl rfl rfl rfl (fun K hK => ?_); go_big_quiet_op; refine hK _ ?_; clear hK K)
              | (refine AWq.skip rfl rfl rfl ?_; simp only [Act.put, List.setIfInBounds_toArray, List.set_cons_succ, List.set_cons_zero])
              | (refine AWq.call rfl Tryz.func98 (by kernel_rfl) (by kernel_rfl) rfl rfl rfl ?_; apply Exists.intro; refine And.intro (fun wc hc => ?_) ?_; (· (simp only [argsOf, anyAt, ↓reduceIte, Nat.reduceEqDiff, Array.getD_eq_getD_getElem?, List.getElem?_toArray, List.getElem?_cons_succ, List.getElem?_cons_zero, Option.getD_some]; with_reducible exact (HVr _).out)); simp only [Act.put, List.setIfInBounds_toArray, List.set_cons_succ, List.set_cons_zero])
              | (refine AWq.call rfl Tryz.func92 (by kernel_rfl) (by kernel_rfl) rfl rfl rfl ?_; apply Exists.intro; refine And.intro (fun wc hc => ?_) ?_; (· (simp only [argsOf, anyAt, ↓reduceIte, Nat.reduceEqDiff, Array.getD_eq_getD_getElem?, List.getElem?_toArray, List.getElem?_cons_succ, List.getElem?_cons_zero, Option.getD_some]; with_reducible exact (HCl _).out)); simp only [Act.put, List.setIfInBounds_toArray, List.set_cons_succ, List.set_cons_zero])
              | (refine AWq.val rfl rfl rfl rfl (fun K hK => ?_); refine quiet_load_at rfl rfl (fun wc hwc => by obtain ⟨E, rfl⟩ := hwc; exact vec_loadVar hz1.out (fun j v hv => (Ext.of_wext _ _).cell (HV2.out j v hv))) (hK _ ?_); clear hK K; simp only [Act.put, List.setIfInBounds_toArray, List.set_cons_succ, List.set_cons_zero]))
            refine AWq.done rfl rfl rfl (fun w5 x5 => ?_)
            simp only [closeAny, Act.put, List.setIfInBounds_toArray, List.set_cons_succ, List.set_cons_zero]
            go_wp2_with fail
            go_ret
            exact ⟨by rw [HNe.out]; rfl, HX2.out.trans x5⟩
          | true =>
            rw [checkV_yes e1] at HVr
            cases e2 : decide (x.v = cv) with
            | false =>
              rw [e2] at HEq
              have HNe := hid (HNe.out (by rw [e1, HCv.out, e2]; rfl))
              clear HNx e1 e2 HCv
              go_wp2_with fail
              dsimp only [Act.put]
              refine wp_region_any_order (by kernel_rfl) (by kernel_rfl) (by kernel_rfl) ?_
              repeat (first
                | (refine AWq.val rfl rfl rfl rfl (fun K hK => ?_); go_big_quiet_op; refine hK _ ?_; clear hK K)
                | (refine AWq.skip rfl rfl rfl ?_; simp only [Act.put, List.setIfInBounds_toArray, List.set_cons_succ, List.set_cons_zero])
                | (refine AWq.call rfl Tryz.func98 (by kernel_rfl) (by kernel_rfl) rfl rfl rfl ?_; apply Exists.intro; refine And.intro (fun wc hc => ?_) ?_; (· (simp only [argsOf, anyAt, ↓reduceIte, Nat.reduceEqDiff, Array.getD_eq_getD_getElem?, List.getElem?_toArray, List.getElem?_cons_succ, List.getElem?_cons_zero, Option.getD_some]; with_reducible exact (HVr _).out)); simp only [Act.put, List.setIfInBounds_toArray, List.set_cons_succ, List.set_cons_zero])
                | (refine AWq.call rfl Tryz.func92 (by kernel_rfl) (by kernel_rfl) rfl rfl rfl ?_; apply Exists.intro; refine And.intro (fun wc hc => ?_) ?_; (· (simp only [argsOf, anyAt, ↓reduceIte, Nat.reduceEqDiff, Array.getD_eq_getD_getElem?, List.getElem?_toArray, List.getElem?_cons_succ, List.getElem?_cons_zero, Option.getD_some]; with_reducible exact (HCl _).out)); simp only [Act.put, List.setIfInBounds_toArray, List.set_cons_succ, List.set_cons_zero])
                | (refine AWq.val rfl rfl rfl rfl (fun K hK => ?_); refine quiet_load_at rfl rfl (fun wc hwc => by obtain ⟨E, rfl⟩ := hwc; exact vec_loadVar hz1.out (fun j v hv => (Ext.of_wext _ _).cell (HV2.out j v hv))) (hK _ ?_); clear hK K; simp only [Act.put, List.setIfInBounds_toArray, List.set_cons_succ, List.set_cons_zero]))
              refine AWq.done rfl rfl rfl (fun w5 x5 => ?_)
              simp only [closeAny, Act.put, List.setIfInBounds_toArray, List.set_cons_succ, List.set_cons_zero]
              go_wp2_with fail
              go_ret
              exact ⟨by rw [HNe.out]; rfl, HX2.out.trans x5⟩
            | true =>
              rw [e2] at HEq
              have HNx := hid (HNx.out (by rw [e1, HCv.out, e2]; rfl))
              clear HNe e1 e2 HCv
              go_wp2_with fail
              dsimp only [Act.put]
              refine wp_region_any_order (by kernel_rfl) (by kernel_rfl) (by kernel_rfl) ?_
              repeat (first
                | (refine AWq.val rfl rfl rfl rfl (fun K hK => ?_); go_big_quiet_op; refine hK _ ?_; clear hK K)
                | (refine AWq.skip rfl rfl rfl ?_; simp only [Act.put, List.setIfInBounds_toArray, List.set_cons_succ, List.set_cons_zero])
                | (refine AWq.call rfl Tryz.func98 (by kernel_rfl) (by kernel_rfl) rfl rfl rfl ?_; apply Exists.intro; refine And.intro (fun wc hc => ?_) ?_; (· (simp only [argsOf, anyAt, ↓reduceIte, Nat.reduceEqDiff, Array.getD_eq_getD_getElem?, List.getElem?_toArray, List.getElem?_cons_succ, List.getElem?_cons_zero, Option.getD_some]; with_reducible exact (HVr _).out)); simp only [Act.put, List.setIfInBounds_toArray, List.set_cons_succ, List.set_cons_zero])
                | (refine AWq.call rfl Tryz.func92 (by kernel_rfl) (by kernel_rfl) rfl rfl rfl ?_; apply Exists.intro; refine And.intro (fun wc hc => ?_) ?_; (· (simp only [argsOf, anyAt, ↓reduceIte, Nat.reduceEqDiff, Array.getD_eq_getD_getElem?, List.getElem?_toArray, List.getElem?_cons_succ, List.getElem?_cons_zero, Option.getD_some]; with_reducible exact (HCl _).out)); simp only [Act.put, List.setIfInBounds_toArray, List.set_cons_succ, List.set_cons_zero])
                | (refine AWq.val rfl rfl rfl rfl (fun K hK => ?_); refine quiet_load_at rfl rfl (fun wc hwc => by obtain ⟨E, rfl⟩ := hwc; exact vec_loadVar hz1.out (fun j v hv => (Ext.of_wext _ _).cell (HV2.out j v hv))) (hK _ ?_); clear hK K; simp only [Act.put, List.setIfInBounds_toArray, List.set_cons_succ, List.set_cons_zero]))
              refine AWq.done rfl rfl rfl (fun w5 x5 => ?_)
              simp only [closeAny, Act.put, List.setIfInBounds_toArray, List.set_cons_succ, List.set_cons_zero]
              go_wp2_with fail
              go_roundw
              case rel => exact ⟨j + 1, by omega, by go_num, HE2.out.trans x5, HNx.out⟩
              case measure => simp [intOf]; omega
        · obtain rfl : j = ia.length := by omega
          have hia : ia.all mayN = true := by
            have := ht.out
            rw [List.take_length] at this
            exact this
          have HR3 : Hid (r = (decide (cs.length ≤ 64) && decide (ia.length ≤ 4096))) := by
            show r = _
            rw [HR2.out, hia]; rfl
          have z0 := (HB1.out.ext hEQ.out).cell (i := 0) rfl
          have z1 := (HB1.out.ext hEQ.out).cell (i := 1) rfl
          have y1 := (HB1.out.ext hEQ.out).lt
          clear hia HR2 ht P3
          by_cases hA : cs.length ≤ 64
          · have t1 : decide ((cs.length : Int) ≤ 64) = true := decide_eq_true (by omega)
            have t1' : decide (cs.length ≤ 64) = true := decide_eq_true hA
            rw [t1', Bool.true_and] at HR3
            go_wp2_with fail
            go_ret
            exact ⟨by rw [HR3.out]; simp; omega, HXq.out⟩
          · have t1 : decide ((cs.length : Int) ≤ 64) = false := decide_eq_false (by omega)
            have t1' : decide (cs.length ≤ 64) = false := decide_eq_false hA
            rw [t1', Bool.false_and] at HR3
            go_wp2_with fail
            go_ret
            exact ⟨by rw [HR3.out]; rfl, HXq.out⟩
end Go.Proofs.YtmbgakjkhgdjnaaGreatDoor
