/-
  R18.Same of messages that are alike.
  R15.Same of nothing; light messages.
-/
import Derived.Test.YtanflgipdiogaaaDoorOpEk
import Derived.Test.YtanflgipdiogaaaDoorQcI
namespace Go.Proofs.YtanflgipdiogaaaDoor
set_option linter.unusedSimpArgs false
set_option linter.unusedVariables false
open Go.RowKit

theorem run_eq_sid (a1 a2 a3 b1 b2 b3 : Int) (w : World) : (Op.equalIn 10000 51 (.agg #[.int .i64 a1, .int .i64 a2, .int .i64 a3]) (.agg #[.int .i64 b1, .int .i64 b2, .int .i64 b3])).run Tryd.prog w = .ok (decide (a1 = b1 ∧ a2 = b2 ∧ a3 = b3)) w := by
  by_cases h1 : a1 = b1 <;> by_cases h2 : a2 = b2 <;> by_cases h3 : a3 = b3 <;> simp [go_sem, h1, h2, h3]
theorem run_eq_pairT (a b : PairI) (w : World) : (Op.equalIn 10000 42 a.val b.val).run Tryd.prog w = .ok (decide (a = b)) w := by
  obtain ⟨⟨a1, a2⟩, ⟨a3, a4⟩⟩ := a
  obtain ⟨⟨b1, b2⟩, ⟨b3, b4⟩⟩ := b
  unfold PairI.val
  by_cases h1 : (⟨a1, a2⟩ : Ver) = ⟨b1, b2⟩ <;> by_cases h2 : (⟨a3, a4⟩ : Ver) = ⟨b3, b4⟩ <;> simp [go_sem, h1, h2, pa_eq]
/-- A message with other slices. -/
def MsgC.slots (a : MsgC) (f k1 k2 held ents not : SlV) : MsgC := ⟨a.kind, a.s1, a.s2, a.s3, a.r1, a.r2, a.r3, a.up, f, k1, k2, held, a.seq, a.last, ents, a.V, a.A, not, a.code, a.hV, a.hA⟩
attribute [-simp] Tryd.isAgg44 Tryd.sizeOf44 Tryd.isAgg59 Tryd.sizeOf59 Tryd.isAgg62 Tryd.sizeOf62
set_option maxRecDepth 100000 in
set_option maxHeartbeats 8000000 in
theorem same18_yes (w : World) (a : MsgC) (f k1 k2 held ents not : SlV) (cl : List ClauseI) (hl : List PairI) (el : List EntI) (nl : List Ver)
    (hf : Sl w 3 a.f.val (cl.map ClauseI.cells)) (hf' : Sl w 3 f.val (cl.map ClauseI.cells)) (hh : Sl w 4 a.held.val (hl.map PairI.cells)) (hh' : Sl w 4 held.val (hl.map PairI.cells))
    (he : Sl w 21 a.ents.val (el.map EntI.cells)) (he' : Sl w 21 ents.val (el.map EntI.cells)) (hn : Sl w 2 a.not.val (nl.map Ver.cells)) (hn' : Sl w 2 not.val (nl.map Ver.cells))
    (hK : ∀ W, Ext w W → Calls Tryd.prog 39 #[.agg #[a.k1.val, a.k2.val], .agg #[k1.val, k2.val]] W (Ret (.bool true) W)) :
    Calls Tryd.prog 17 #[.agg a.arr, .agg (a.slots f k1 k2 held ents not).arr] w (Ret (.bool true) w) := by
  have HA := hid (msg_hd a)
  have HB := hid (msg_hd (a.slots f k1 k2 held ents not))
  have HAV0 := hid (msg_V a)
  have HBV0 := hid (msg_V (a.slots f k1 k2 held ents not))
  have HAA0 := hid (msg_A a)
  have HBA0 := hid (msg_A (a.slots f k1 k2 held ents not))
  have HAE := hid (msg_end a)
  have HBE := hid (msg_end (a.slots f k1 k2 held ents not))
  generalize a.arr = ar at HA HAV0 HAA0 HAE ⊢
  generalize (a.slots f k1 k2 held ents not).arr = br at HB HBV0 HBA0 HBE ⊢
  have HEqV := fun W => run_eq_vec a.V a.V a.hV a.hV W
  have HEqA := fun W => run_eq_vec a.A a.A a.hA a.hA W
  rw [decide_eq_true rfl] at HEqV HEqA
  have hVs := hid (show (vecV a.V).size = 65 by rw [vecV_size]; exact a.hV)
  have hAs := hid (show (vecV a.A).size = 65 by rw [vecV_size]; exact a.hA)
  have HAV := hid (fun j v (h : (vecV a.V)[j]? = some v) => HAV0.out j v (by simpa [vecV, intsV] using h))
  have HAA := hid (fun j v (h : (vecV a.A)[j]? = some v) => HAA0.out j v (by simpa [vecV, intsV] using h))
  have HBV := hid (fun j v (h : (vecV a.V)[j]? = some v) => HBV0.out j v (by simpa [vecV, intsV, MsgC.slots] using h))
  have HBA := hid (fun j v (h : (vecV a.A)[j]? = some v) => HBA0.out j v (by simpa [vecV, intsV, MsgC.slots] using h))
  clear HAV0 HAA0 HBV0 HBA0
  obtain ⟨ak, as1, as2, as3, ar1, ar2, ar3, aup, ⟨af1, af2, af3⟩, ⟨ax1, ax2, ax3⟩, ⟨ay1, ay2, ay3⟩, ⟨ah1, ah2, ah3⟩, aseq, alast, ⟨ae1, ae2, ae3⟩, aV, aA, ⟨an1, an2, an3⟩, acode, hV, hA⟩ := a
  obtain ⟨bf1, bf2, bf3⟩ := f
  obtain ⟨bx1, bx2, bx3⟩ := k1
  obtain ⟨by1, by2, by3⟩ := k2
  obtain ⟨bh1, bh2, bh3⟩ := held
  obtain ⟨be1, be2, be3⟩ := ents
  obtain ⟨bn1, bn2, bn3⟩ := not
  simp only [SlV.val] at hf hf' hh hh' he he' hn hn' hK
  have len : ∀ {sz : Nat} {α : Type} {code : α → List Value} {l : List α} {A n c}, Sl w sz (.slice A n c) (l.map code) → n = l.length := fun h => by
    obtain ⟨A', c', h1, _⟩ := sl_get h
    injection h1
  obtain rfl := len hf
  obtain rfl := len hf'
  obtain rfl := len hh
  obtain rfl := len hh'
  obtain rfl := len he
  obtain rfl := len he'
  obtain rfl := len hn
  obtain rfl := len hn'
  clear len
  dsimp only at HAV HAA HBV HBA HEqV HEqA hVs hAs
  generalize vecV aV = VV at HAV HBV HEqV hVs
  generalize vecV aA = AA at HAA HBA HEqA hAs
  have HEqS := fun x1 x2 x3 W => (run_eq_sid x1 x2 x3 x1 x2 x3 W).trans (by rw [decide_eq_true ⟨rfl, rfl, rfl⟩])
  have HReq := fun W (hW : Ext w W) => hid (requal_c W _ _ cl cl (hf.ext hW) (hf'.ext hW))
  have HRvs := fun W (hW : Ext w W) => hid (vsame_c W _ _ nl nl (hn.ext hW) (hn'.ext hW))
  have HK := fun W (hW : Ext w W) => hid (hK W hW)
  rw [decide_eq_true rfl] at HReq HRvs
  obtain ⟨_, _, e1, hh1, hh2, hh3⟩ := sl_get hh
  injection e1 with e1 _ e1c
  subst e1 e1c
  obtain ⟨_, _, e1, hi1, hi2, hi3⟩ := sl_get hh'
  injection e1 with e1 _ e1c
  subst e1 e1c
  obtain ⟨_, _, e1, he1, he2, he3⟩ := sl_get he
  injection e1 with e1 _ e1c
  subst e1 e1c
  obtain ⟨_, _, e1, hg1, hg2, hg3⟩ := sl_get he'
  injection e1 with e1 _ e1c
  subst e1 e1c
  have HH3 := hid hh3
  have HI3 := hid hi3
  have HE3 := hid he3
  have HG3 := hid hg3
  clear hf hf' hh hh' he he' hn hn' hK hh3 hi3 he3 hg3
  unfold maxLen at hh2 hi2 he2 hg2
  have HBa := hid ((Blk.new w 62 ar).alloc (.cells br 62))
  have HBb := hid (Blk.new (w.alloc (.cells ar 62)) 62 br)
  have HX := hid ((Ext.alloc w (.cells ar 62)).alloc' (.cells br 62))
  rw [World.size_alloc] at HBb
  have a0 : ar[0]? = some (.int .i64 ak) := HA.out 0 (by omega)
  have b0 : br[0]? = some (.int .i64 ak) := HB.out 0 (by omega)
  have a1 : ar[1]? = some (.int .i64 as1) := HA.out 1 (by omega)
  have b1 : br[1]? = some (.int .i64 as1) := HB.out 1 (by omega)
  have a2 : ar[2]? = some (.int .i64 as2) := HA.out 2 (by omega)
  have b2 : br[2]? = some (.int .i64 as2) := HB.out 2 (by omega)
  have a3 : ar[3]? = some (.int .i64 as3) := HA.out 3 (by omega)
  have b3 : br[3]? = some (.int .i64 as3) := HB.out 3 (by omega)
  have a4 : ar[4]? = some (.int .i64 ar1) := HA.out 4 (by omega)
  have b4 : br[4]? = some (.int .i64 ar1) := HB.out 4 (by omega)
  have a5 : ar[5]? = some (.int .i64 ar2) := HA.out 5 (by omega)
  have b5 : br[5]? = some (.int .i64 ar2) := HB.out 5 (by omega)
  have a6 : ar[6]? = some (.int .i64 ar3) := HA.out 6 (by omega)
  have b6 : br[6]? = some (.int .i64 ar3) := HB.out 6 (by omega)
  have a7 : ar[7]? = some (.bool aup) := HA.out 7 (by omega)
  have b7 : br[7]? = some (.bool aup) := HB.out 7 (by omega)
  have a8 : ar[8]? = some (.slice af1 cl.length af3) := HA.out 8 (by omega)
  have b8 : br[8]? = some (.slice bf1 cl.length bf3) := HB.out 8 (by omega)
  have a9 : ar[9]? = some (.slice ax1 ax2 ax3) := HA.out 9 (by omega)
  have b9 : br[9]? = some (.slice bx1 bx2 bx3) := HB.out 9 (by omega)
  have a10 : ar[10]? = some (.slice ay1 ay2 ay3) := HA.out 10 (by omega)
  have b10 : br[10]? = some (.slice by1 by2 by3) := HB.out 10 (by omega)
  have a11 : ar[11]? = some (.slice ah1 hl.length ah3) := HA.out 11 (by omega)
  have b11 : br[11]? = some (.slice bh1 hl.length bh3) := HB.out 11 (by omega)
  have a12 : ar[12]? = some (.int .i64 aseq) := HA.out 12 (by omega)
  have b12 : br[12]? = some (.int .i64 aseq) := HB.out 12 (by omega)
  have a13 : ar[13]? = some (.bool alast) := HA.out 13 (by omega)
  have b13 : br[13]? = some (.bool alast) := HB.out 13 (by omega)
  have a14 : ar[14]? = some (.slice ae1 el.length ae3) := HA.out 14 (by omega)
  have b14 : br[14]? = some (.slice be1 el.length be3) := HB.out 14 (by omega)
  have a145 : ar[145]? = some (.slice an1 nl.length an3) := HAE.out 0
  have a146 : ar[146]? = some (.int .i64 acode) := HAE.out 1
  have b145 : br[145]? = some (.slice bn1 nl.length bn3) := HBE.out 0
  have b146 : br[146]? = some (.int .i64 acode) := HBE.out 1
  have HLa := hid (fun j v (h : VV[j]? = some v) => HBa.out.cell (HAV.out j v h))
  have HLb := hid (fun j v (h : VV[j]? = some v) => HBb.out.cell (HBV.out j v h))
  have HMa := hid (fun j v (h : AA[j]? = some v) => HBa.out.cell (HAA.out j v h))
  have HMb := hid (fun j v (h : AA[j]? = some v) => HBb.out.cell (HBA.out j v h))
  clear HA HB HAE HBE HAV HBV HAA HBA
  go_enter Tryd.func17, Tryd.ntmps17
  go_wp2_with fail
  simp only [Tryd.sizeOf59, Result.andThen]
  rw [if_neg (show ¬ (65 : Nat) = 0 by omega)]
  dsimp only
  rw [Oper.upon_value]
  go_wp2_with fail
  simp only [Tryd.isAgg59, Tryd.sizeOf59, Result.andThen, ↓reduceIte, run_loadCells_at HLa.out 65 hVs.out]
  rw [Oper.upon_value]
  go_wp2_with fail
  simp only [Tryd.sizeOf59, Result.andThen]
  rw [if_neg (show ¬ (65 : Nat) = 0 by omega)]
  dsimp only
  rw [Oper.upon_value]
  go_wp2_with fail
  simp only [Tryd.isAgg59, Tryd.sizeOf59, Result.andThen, ↓reduceIte, run_loadCells_at HLb.out 65 hVs.out]
  rw [Oper.upon_value]
  go_wp2_with fail
  simp only [Tryd.sizeOf59, Result.andThen]
  rw [if_neg (show ¬ (65 : Nat) = 0 by omega)]
  dsimp only
  rw [Oper.upon_value]
  go_wp2_with fail
  simp only [Tryd.isAgg59, Tryd.sizeOf59, Result.andThen, ↓reduceIte, run_loadCells_at HMa.out 65 hAs.out]
  rw [Oper.upon_value]
  go_wp2_with fail
  simp only [Tryd.sizeOf59, Result.andThen]
  rw [if_neg (show ¬ (65 : Nat) = 0 by omega)]
  dsimp only
  rw [Oper.upon_value]
  go_wp2_with fail
  simp only [Tryd.isAgg59, Tryd.sizeOf59, Result.andThen, ↓reduceIte, run_loadCells_at HMb.out 65 hAs.out]
  rw [Oper.upon_value]
  go_wp2_with fail
  generalize (w.alloc (.cells ar 62)).alloc (.cells br 62) = w1 at HBa HBb HX ⊢
  refine ((HReq _ HX.out).out).mono ?_
  rintro en w2 ⟨rfl, x2⟩
  have HX2 := hid (HX.out.trans x2)
  have HA2 := hid (HBa.out.ext x2)
  have HB2 := hid (HBb.out.ext x2)
  clear x2 HX HBa HBb HReq HLa HLb HMa HMb HEqV HEqA hVs hAs HEqS
  have c9 := HA2.out.cell a9
  have c10 := HA2.out.cell a10
  have d9 := HB2.out.cell b9
  have d10 := HB2.out.cell b10
  go_wp2_with fail
  refine ((HK _ HX2.out).out).mono ?_
  rintro en w3 ⟨rfl, x3⟩
  have HX3 := hid (HX2.out.trans x3)
  have HA3 := hid (HA2.out.ext x3)
  have HB3 := hid (HB2.out.ext x3)
  clear x3 HX2 HA2 HB2 c9 c10 d9 d10 HK
  have c145 := HA3.out.cell a145
  have d145 := HB3.out.cell b145
  go_wp2_with fail
  refine ((HRvs _ HX3.out).out).mono ?_
  rintro en w4 ⟨rfl, x4⟩
  have HX4 := hid (HX3.out.trans x4)
  have HA4 := hid (HA3.out.ext x4)
  have HB4 := hid (HB3.out.ext x4)
  clear x4 HX3 HA3 HB3 c145 d145 HRvs
  have c11 := HA4.out.cell a11
  have c14 := HA4.out.cell a14
  have d11 := HB4.out.cell b11
  have d14 := HB4.out.cell b14
  have HA11 := hid a11
  have HA14 := hid a14
  have HB11 := hid b11
  have HB14 := hid b14
  clear a0 a1 a2 a3 a4 a5 a6 a7 a8 a9 a10 a11 a12 a13 a14 a145 a146 b0 b1 b2 b3 b4 b5 b6 b7 b8 b9 b10 b11 b12 b13 b14 b145 b146
  go_wp2_with fail
  clear c11 c14 d11 d14
  go_loopw [5] (fun s5 wr => ∃ k : Nat, k ≤ hl.length ∧ s5 = .int .i64 k ∧ Hid (Ext w4 wr)) (fun s5 _ => hl.length - (intOf s5).toNat)
  case atStart => exact ⟨0, by omega, rfl, Ext.refl _⟩
  case round =>
    obtain ⟨k, hk, rfl, hE⟩ := hrel
    have c11 := (HA4.out.ext hE.out).cell HA11.out
    have d11 := (HB4.out.ext hE.out).cell HB11.out
    have l1 := (HA4.out.ext hE.out).lt
    have l2 := (HB4.out.ext hE.out).lt
    by_cases hlt : k < hl.length
    · have e1 : decide ((k : Int) < hl.length) = true := decide_eq_true (by omega)
      have e1' : decide (k < hl.length) = true := decide_eq_true hlt
      obtain ⟨p, o, rfl, lb, hc⟩ := HH3.out (by omega)
      obtain ⟨p', o', rfl, lb', hc'⟩ := HI3.out (by omega)
      have hXE := HX4.out.trans hE.out
      have y0 := hXE.cell (hc k hlt 0 _ rfl)
      have y1 := hXE.cell (hc k hlt 1 _ rfl)
      have y2 := hXE.cell (hc k hlt 2 _ rfl)
      have y3 := hXE.cell (hc k hlt 3 _ rfl)
      have z0 := hXE.cell (hc' k hlt 0 _ rfl)
      have z1 := hXE.cell (hc' k hlt 1 _ rfl)
      have z2 := hXE.cell (hc' k hlt 2 _ rfl)
      have z3 := hXE.cell (hc' k hlt 3 _ rfl)
      rw [Nat.add_zero] at y0 z0
      have l3 := Nat.lt_of_lt_of_le lb hXE.size
      have l4 := Nat.lt_of_lt_of_le lb' hXE.size
      have HEq := fun W => run_eq_pairT hl[k] hl[k] W
      rw [decide_eq_true rfl] at HEq
      clear hc hc' HH3 HI3 hXE lb lb'
      generalize hl[k] = x at y0 y1 y2 y3 z0 z1 z2 z3 HEq
      unfold PairI.val at HEq
      go_wp2_with fail
      refine wp_region_any_order (by kernel_rfl) (by kernel_rfl) (by kernel_rfl) ?_
      repeat (first
        | (refine AWq.val rfl rfl rfl rfl (fun K hK => ?_); go_big_quiet_op; refine hK _ ?_; clear hK K)
        | (refine AWq.skip rfl rfl rfl ?_; simp only [Act.put, List.setIfInBounds_toArray, List.set_cons_succ, List.set_cons_zero]))
      refine AWq.done rfl rfl rfl (fun w5 x5 => ?_)
      simp only [closeAny, Act.put, List.setIfInBounds_toArray, List.set_cons_succ, List.set_cons_zero]
      go_wp2_with fail
      go_roundw
      case rel => exact ⟨k + 1, by omega, by go_num, hE.out.trans x5⟩
      case measure => simp [intOf]; omega
    · obtain rfl : k = hl.length := by omega
      have e1 : decide ((hl.length : Int) < hl.length) = false := decide_eq_false (by omega)
      have e1' : decide (hl.length < hl.length) = false := decide_eq_false (by omega)
      have HA5 := hid (HA4.out.ext hE.out)
      have HB5 := hid (HB4.out.ext hE.out)
      have HX5 := hid (HX4.out.trans hE.out)
      have c14 := HA5.out.cell HA14.out
      have d14 := HB5.out.cell HB14.out
      clear HA4 HB4 HX4 hE hlt hk HH3 HI3 HA11 HB11
      go_wp2_with fail
      clear c14 d14 c11 d11 l1 l2
      generalize wr = w6 at HA5 HB5 HX5 ⊢
      go_loopw [6] (fun s6 WQ => ∃ k : Nat, k ≤ el.length ∧ s6 = .int .i64 k ∧ Hid (Ext w6 WQ)) (fun s6 _ => el.length - (intOf s6).toNat)
      case atStart => exact ⟨0, by omega, rfl, Ext.refl _⟩
      case round =>
        obtain ⟨k, hk, rfl, hE⟩ := hrel
        have c14 := (HA5.out.ext hE.out).cell HA14.out
        have d14 := (HB5.out.ext hE.out).cell HB14.out
        have l1 := (HA5.out.ext hE.out).lt
        have l2 := (HB5.out.ext hE.out).lt
        by_cases hlt : k < el.length
        · have e1 : decide ((k : Int) < el.length) = true := decide_eq_true (by omega)
          have e1' : decide (k < el.length) = true := decide_eq_true hlt
          obtain ⟨p, o, rfl, lb, hc⟩ := HE3.out (by omega)
          obtain ⟨p', o', rfl, lb', hc'⟩ := HG3.out (by omega)
          have HXE := hid (HX5.out.trans hE.out)
          have HR1 := hid (fun (q : Nat) u (hu : el[k].arr[q]? = some u) => HXE.out.cell (hc k hlt q u (by rw [← arr_list, Array.getElem?_toList]; exact hu)))
          have HR2 := hid (fun (q : Nat) u (hu : el[k].arr[q]? = some u) => HXE.out.cell (hc' k hlt q u (by rw [← arr_list, Array.getElem?_toList]; exact hu)))
          have HEq := fun W => run_eq_ent el[k] el[k] W
          rw [decide_eq_true rfl] at HEq
          have hz := hid (arr_size el[k])
          clear hc hc' HE3 HG3 HXE lb lb'
          generalize el[k].arr = arr at HR1 HR2 HEq hz
          go_wp2_with fail
          refine wp_region_any_order (by kernel_rfl) (by kernel_rfl) (by kernel_rfl) ?_
          repeat (first
            | (refine AWq.val rfl rfl rfl rfl (fun K hK => ?_); go_big_quiet_op; refine hK _ ?_; clear hK K)
            | (refine AWq.skip rfl rfl rfl ?_; simp only [Act.put, List.setIfInBounds_toArray, List.set_cons_succ, List.set_cons_zero])
            | (refine AWq.val rfl rfl rfl rfl (fun K hK => ?_); refine quiet_index_ent (k := k) rfl rfl rfl rfl hlt (hK _ ?_); clear hK K; simp only [Act.put, List.setIfInBounds_toArray, List.set_cons_succ, List.set_cons_zero])
            | (refine AWq.val rfl rfl rfl rfl (fun K hK => ?_); refine quiet_load_at rfl rfl (fun wc hwc => by obtain ⟨E, rfl⟩ := hwc; exact ent_loadVar hz.out (fun j v hv => (Ext.of_wext _ _).cell (HR1.out j v hv))) (hK _ ?_); clear hK K; simp only [Act.put, List.setIfInBounds_toArray, List.set_cons_succ, List.set_cons_zero])
            | (refine AWq.val rfl rfl rfl rfl (fun K hK => ?_); refine quiet_load_at rfl rfl (fun wc hwc => by obtain ⟨E, rfl⟩ := hwc; exact ent_loadVar hz.out (fun j v hv => (Ext.of_wext _ _).cell (HR2.out j v hv))) (hK _ ?_); clear hK K; simp only [Act.put, List.setIfInBounds_toArray, List.set_cons_succ, List.set_cons_zero]))
          refine AWq.done rfl rfl rfl (fun w5 x5 => ?_)
          simp only [closeAny, Act.put, List.setIfInBounds_toArray, List.set_cons_succ, List.set_cons_zero]
          go_wp2_with fail
          go_roundw
          case rel => exact ⟨k + 1, by omega, by go_num, hE.out.trans x5⟩
          case measure => simp [intOf]; omega
        · obtain rfl : k = el.length := by omega
          have e1 : decide ((el.length : Int) < el.length) = false := decide_eq_false (by omega)
          have e1' : decide (el.length < el.length) = false := decide_eq_false (by omega)
          have HX6 := hid (HX5.out.trans hE.out)
          clear HE3 HG3 HX5 hE HA5 HB5
          go_wp2_with fail
          go_ret
          exact ⟨rfl, HX6.out⟩
end Go.Proofs.YtanflgipdiogaaaDoor
namespace Go.Proofs.YtanflgipdiogaaaDoor
set_option linter.unusedSimpArgs false
set_option linter.unusedVariables false
open Go.RowKit

set_option maxRecDepth 100000 in
set_option maxHeartbeats 4000000 in
theorem rsame15_nil (w : World) : Calls Tryd.prog 39 #[.agg #[.slice none 0 0, .slice none 0 0], .agg #[.slice none 0 0, .slice none 0 0]] w (Ret (.bool true) w) := by
  have HX := hid ((Ext.alloc w (.cells #[.slice none 0 0, .slice none 0 0] 56)).alloc' (.cells #[.slice none 0 0, .slice none 0 0] 56))
  go_enter Tryd.func39, Tryd.ntmps39
  go_wp2_with fail
  go_loopw [5] (fun s5 wr => s5 = .int .i64 0 ∧ wr = ((w.alloc (.cells #[.slice none 0 0, .slice none 0 0] 56)).alloc (.cells #[.slice none 0 0, .slice none 0 0] 56))) (fun s5 _ => 0)
  case atStart => exact ⟨rfl, rfl⟩
  case round =>
    obtain ⟨rfl, rfl⟩ := hrel
    go_wp2_with fail
    go_loopw [6] (fun s6 wr => s6 = .int .i64 0 ∧ wr = ((w.alloc (.cells #[.slice none 0 0, .slice none 0 0] 56)).alloc (.cells #[.slice none 0 0, .slice none 0 0] 56))) (fun s5 _ => 0)
    case atStart => exact ⟨rfl, rfl⟩
    case round =>
      obtain ⟨rfl, rfl⟩ := hrel
      go_wp2_with fail
      go_ret
      exact ⟨rfl, HX.out⟩
def light18 (el : List EntI) (nh nn : Nat) (f : List ClauseI) : Bool := el.all lightE && (decide (el.length ≤ 40) && (decide (nh ≤ 40) && (decide (nn ≤ 40) && lightF f)))
attribute [-simp] Tryd.isAgg44 Tryd.sizeOf44 Tryd.isAgg59 Tryd.isAgg62 Tryd.sizeOf62
set_option maxRecDepth 100000 in
set_option maxHeartbeats 8000000 in
theorem light18_c (w : World) (a : MsgC) (cl : List ClauseI) (nh nn : Nat) (el : List EntI) (hf : Sl w 3 a.f.val (cl.map ClauseI.cells)) (hh : a.held.n = nh) (hn : a.not.n = nn) (he : Sl w 21 a.ents.val (el.map EntI.cells)) (hnh : nh ≤ maxLen) (hnn : nn ≤ maxLen) : Calls Tryd.prog 15 #[.agg a.arr] w (Ret (.bool (light18 el nh nn cl)) w) := by
  have h4 := msg_hd a 8 (by omega)
  have h11 := msg_hd a 11 (by omega)
  have h14 := msg_hd a 14 (by omega)
  have h145 := msg_end a 0
  generalize a.arr = ar at *
  obtain ⟨ak, as1, as2, as3, ar1, ar2, ar3, aup, ⟨af1, af2, af3⟩, ⟨ax1, ax2, ax3⟩, ⟨ay1, ay2, ay3⟩, ⟨ah1, ah2, ah3⟩, aseq, alast, ⟨ae1, ae2, ae3⟩, aV, aA, ⟨an1, an2, an3⟩, acode, hV, hA⟩ := a
  simp only [SlV.val] at hf he
  dsimp only at hh hn
  subst hh hn
  obtain ⟨_, _, e1, f1, f2, _⟩ := sl_get hf
  injection e1 with e1 e1n e1c
  subst e1 e1n e1c
  obtain ⟨_, _, e1, g1, g2, g3⟩ := sl_get he
  injection e1 with e1 e1n e1c
  subst e1 e1n e1c
  have a8 : ar[8]? = some (.slice af1 cl.length af3) := h4
  have a11 : ar[11]? = some (.slice ah1 ah2 ah3) := h11
  have a14 : ar[14]? = some (.slice ae1 el.length ae3) := h14
  have a145 : ar[145]? = some (.slice an1 an2 an3) := h145
  have HLt := fun W u => hid (light16_c W u)
  unfold UpdI.val at HLt
  have HLf := fun W (hW : Ext w W) => hid (lightF_c W _ cl (hf.ext hW))
  have H3 := hid g3
  have HB := hid (Blk.new w 62 ar)
  have HX := hid (Ext.alloc w (.cells ar 62))
  have HFin : Hid (∀ b, el.all lightE = b → light18 el ah2 an2 cl = (b && (decide (el.length ≤ 40) && (decide (ah2 ≤ 40) && (decide (an2 ≤ 40) && lightF cl))))) := fun b h => by unfold light18; rw [h]
  generalize light18 el ah2 an2 cl = res at HFin ⊢
  generalize lightF cl = lf at HLf HFin
  unfold maxLen at f2 g2 hnh hnn
  have HA8 := hid a8
  have HA11 := hid a11
  have HA14 := hid a14
  have HA145 := hid a145
  clear h4 h11 h14 h145 hf he g3 hV hA a8 a11 a145
  go_enter Tryd.func15, Tryd.ntmps15
  go_wp2_with fail
  generalize w.alloc (.cells ar 62) = w0 at HB HX ⊢
  clear a14
  go_loopw [3] (fun s3 wr => ∃ k : Nat, k ≤ el.length ∧ s3 = .int .i64 k ∧ Hid (Ext w0 wr) ∧ Hid ((el.take k).all lightE = true)) (fun s3 _ => el.length - (intOf s3).toNat)
  case atStart => exact ⟨0, by omega, rfl, Ext.refl _, rfl⟩
  case round =>
    obtain ⟨k, hk, rfl, hE, hA⟩ := hrel
    have HB1 := hid (HB.out.ext hE.out)
    have HX1 := hid (HX.out.trans hE.out)
    have q14 := HB1.out.cell HA14.out
    have q1 := HB1.out.lt
    by_cases hlt : k < el.length
    · have d1 : decide ((k : Int) < el.length) = true := decide_eq_true (by omega)
      have d1' : decide (k < el.length) = true := decide_eq_true hlt
      obtain ⟨b, o, rfl, lb, hcell⟩ := H3.out (by omega)
      have HR := hid (fun (j : Nat) u (hu : el[k].arr[j]? = some u) => HX1.out.cell (hcell k hlt j u (by rw [← arr_list, Array.getElem?_toList]; exact hu)))
      have lbr := Nat.lt_of_lt_of_le lb HX1.out.size
      have HT := hid (fun h => all_takeG (p := lightE) hlt hA.out h)
      have HF := hid (fun h => all_hitG (p := lightE) hlt h)
      clear hcell H3 hA lb
      generalize el[k] = e at HR HT HF
      have HC := fun W => HLt W e.u
      have c1 := HR.out 1 (.int .i64 e.u.item.by_) rfl
      have c2 := HR.out 2 (.int .i64 e.u.item.n) rfl
      have c3 := HR.out 3 (.int .i64 e.u.st.v.by_) rfl
      have c4 := HR.out 4 (.int .i64 e.u.st.v.n) rfl
      have c5 := HR.out 5 (.int .i64 e.u.st.time) rfl
      have c6 := HR.out 6 (.string e.u.p) rfl
      have c7 := HR.out 7 (.string e.u.d) rfl
      have c8 := HR.out 8 (.bool e.u.dead) rfl
      unfold lightE at HT HF
      generalize lightU e.u = lu at HC HT HF
      go_wp2_with fail
      simp only [Tryd.sizeOf44, Result.andThen]
      rw [Oper.upon_value]
      go_wp2_with fail
      refine ((HC _).out).mono ?_
      rintro en w3 ⟨rfl, x3⟩
      have HE3 := hid (hE.out.trans x3)
      have c14 := x3.cell (HR.out 14 (.string e.m.p) rfl)
      have lb3 := Nat.lt_of_lt_of_le lbr x3.size
      have r14 := (HB1.out.ext x3).cell HA14.out
      have r1 := (HB1.out.ext x3).lt
      clear x3 c1 c2 c3 c4 c5 c6 c7 c8 HR HC HLt q14 q1
      cases lu with
      | false =>
        have hF := hid (HFin.out false (HF.out rfl))
        rw [Bool.false_and] at hF
        have HX3 := hid (HX.out.trans HE3.out)
        clear HT HF c14 HFin r14 r1
        go_wp2_with fail
        go_ret
        exact ⟨by rw [hF.out]; rfl, HX3.out⟩
      | true =>
        by_cases hb : e.m.p.size ≤ 200
        · have d2 : decide (200 < e.m.p.size) = false := decide_eq_false (by omega)
          have d2' : decide ((200 : Int) < e.m.p.size) = false := decide_eq_false (by omega)
          have hT := hid (HT.out (by simp [hb]))
          clear hb HT HF
          go_wp2_with fail
          simp only [Tryd.sizeOf44, Result.andThen]
          rw [Oper.upon_value]
          go_wp2_with fail
          go_roundw
          case rel => exact ⟨k + 1, by omega, by go_num, HE3, hT⟩
          case measure => simp [intOf]; omega
        · have d2 : decide (200 < e.m.p.size) = true := decide_eq_true (by omega)
          have d2' : decide ((200 : Int) < e.m.p.size) = true := decide_eq_true (by omega)
          have hF := hid (HFin.out false (HF.out (by simp [hb])))
          rw [Bool.false_and] at hF
          have HX3 := hid (HX.out.trans HE3.out)
          clear hb HT HF HFin
          go_wp2_with fail
          simp only [Tryd.sizeOf44, Result.andThen]
          rw [Oper.upon_value]
          go_wp2_with fail
          go_ret
          exact ⟨by rw [hF.out]; rfl, HX3.out⟩
    · obtain rfl : k = el.length := by omega
      rw [List.take_length] at hA
      have hF := hid (HFin.out true hA.out)
      rw [Bool.true_and] at hF
      have e1 : decide ((el.length : Int) < el.length) = false := decide_eq_false (by omega)
      have e1' : decide (el.length < el.length) = false := decide_eq_false (by omega)
      have q8 := HB1.out.cell HA8.out
      have q11 := HB1.out.cell HA11.out
      have q145 := HB1.out.cell HA145.out
      clear hlt hk H3 HLt HFin hA HB HX hE
      by_cases h40 : el.length ≤ 40
      · have p1 : decide ((el.length : Int) ≤ 40) = true := decide_eq_true (by omega)
        have p1' : decide (el.length ≤ 40) = true := decide_eq_true h40
        rw [p1', Bool.true_and] at hF
        clear h40
        by_cases hh40 : ah2 ≤ 40
        · have p2 : decide ((ah2 : Int) ≤ 40) = true := decide_eq_true (by omega)
          have p2' : decide (ah2 ≤ 40) = true := decide_eq_true hh40
          rw [p2', Bool.true_and] at hF
          clear hh40
          by_cases hn40 : an2 ≤ 40
          · have p3 : decide ((an2 : Int) ≤ 40) = true := decide_eq_true (by omega)
            have p3' : decide (an2 ≤ 40) = true := decide_eq_true hn40
            rw [p3', Bool.true_and] at hF
            clear hn40
            go_wp2_with fail
            refine ((HLf _ HX1.out).out).mono ?_
            rintro en w3 ⟨rfl, x3⟩
            have HX3 := hid (HX1.out.trans x3)
            clear x3 HLf HX1 HB1 q1 q8 q11 q14 q145
            go_wp2_with fail
            go_ret
            exact ⟨by rw [hF.out]; rfl, HX3.out⟩
          · have p3 : decide ((an2 : Int) ≤ 40) = false := decide_eq_false (by omega)
            have p3' : decide (an2 ≤ 40) = false := decide_eq_false hn40
            rw [p3', Bool.false_and] at hF
            clear hn40
            go_wp2_with fail
            go_ret
            exact ⟨by rw [hF.out]; rfl, HX1.out⟩
        · have p2 : decide ((ah2 : Int) ≤ 40) = false := decide_eq_false (by omega)
          have p2' : decide (ah2 ≤ 40) = false := decide_eq_false hh40
          rw [p2', Bool.false_and] at hF
          clear hh40
          go_wp2_with fail
          go_ret
          exact ⟨by rw [hF.out]; rfl, HX1.out⟩
      · have p1 : decide ((el.length : Int) ≤ 40) = false := decide_eq_false (by omega)
        have p1' : decide (el.length ≤ 40) = false := decide_eq_false h40
        rw [p1', Bool.false_and] at hF
        clear h40
        go_wp2_with fail
        go_ret
        exact ⟨by rw [hF.out]; rfl, HX1.out⟩
end Go.Proofs.YtanflgipdiogaaaDoor
