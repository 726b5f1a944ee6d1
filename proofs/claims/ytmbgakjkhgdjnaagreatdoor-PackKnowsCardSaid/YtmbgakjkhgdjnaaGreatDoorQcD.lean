/-
  pack.texts; a whole claim's and an item's claim's bytes (pack.frag, pack.known).
  pack.list of whole claims and of items' claims (written by gen_listx.py).
  pack.PutKnow.
-/
import Derived.Test.YtmbgakjkhgdjnaaGreatDoorQcB
import Derived.Test.YtmbgakjkhgdjnaaGreatDoorQcC
import Derived.Test.YtmbgakjkhgdjnaaGreatDoorQbJ
namespace Go.Proofs.YtmbgakjkhgdjnaaGreatDoor
set_option linter.unusedSimpArgs false
set_option linter.unusedVariables false
open Go.RowKit

def txC (s : ByteArray) : List Value := [.string s]
theorem tx_coded : Coded txC 1 := ⟨fun _ => rfl, fun a u hu => by simp [txC] at hu; rcases hu with rfl; rfl⟩
theorem sl_three (w : World) (a b c : ByteArray) : Sl (w.alloc (.cells #[.string a, .string b, .string c] 9)) 1 (.slice (some ⟨w.heap.size, 0, none⟩) 3 3) ([a, b, c].map txC) :=
  sl_of_row (xs := [a, b, c].map txC) (tx_coded.sizes _) (own_lit (Nat.le_refl _) 9 1 3 #[.string a, .string b, .string c] (by unfold maxLen; omega) rfl)
theorem sl_two (w : World) (a b : ByteArray) : Sl (w.alloc (.cells #[.string a, .string b] 9)) 1 (.slice (some ⟨w.heap.size, 0, none⟩) 2 2) ([a, b].map txC) :=
  sl_of_row (xs := [a, b].map txC) (tx_coded.sizes _) (own_lit (Nat.le_refl _) 9 1 2 #[.string a, .string b] (by unfold maxLen; omega) rfl)
theorem texts_two (a b : ByteArray) : capL ([a, b].map fT) = capB (textB a ++ textB b) := by
  unfold capL
  congr 1
  apply ByteArray.ext
  apply Array.ext'
  simp only [ByteArray.data_append, Array.toList_append, textB_list]
  simp [encL, fT, FldI.enc]
theorem texts_three (a b c : ByteArray) : capL ([a, b, c].map fT) = capB (textB a ++ textB b ++ textB c) := by
  unfold capL
  congr 1
  apply ByteArray.ext
  apply Array.ext'
  simp only [ByteArray.data_append, Array.toList_append, textB_list]
  simp [encL, fT, FldI.enc]
theorem textB_ge (s : ByteArray) : s.size < (textB s).size := by
  have h1 : (textB s).data.toList.length = (textB s).size := by rw [Array.length_toList]; rfl
  have h2 : s.data.toList.length = s.size := by rw [Array.length_toList]; rfl
  rw [textB_list, List.length_append, h2] at h1
  have := lebL_pos s.size
  omega
theorem capB_no {s : ByteArray} (h : 65536 < s.size) : capB s = ⟨#[]⟩ := if_neg (by omega)
theorem capB_ok {s : ByteArray} (h : s.size ≤ 65536) : capB s = s := if_pos h
theorem fragB_pos (x : FragI) : 0 < (fragB x).size := by
  unfold fragB
  rw [ByteArray.size_append]
  have := textB_ge (listB verB x.n)
  omega
theorem knownB_pos (x : KnownI) : 0 < (knownB x).size := by
  unfold knownB
  rw [ByteArray.size_append]
  have := textB_ge (listB verB (endsL x.v))
  omega
set_option maxRecDepth 100000 in
set_option maxHeartbeats 4000000 in
theorem texts_c (w : World) (v : Value) (l : List ByteArray) (e : Int) (h : Sl w 1 v (l.map txC)) (hl : l.length ≤ 100) (hp : 0 < l.length) (hs : ∀ s ∈ l, s.size ≤ 65536) (R : ByteArray) (hyes : e = 0 → (∀ s ∈ l, s.size ≠ 0) → capL (l.map fT) = R) (hno : (e ≠ 0 ∨ ∃ s ∈ l, s.size = 0) → (⟨#[]⟩ : ByteArray) = R) : Calls Tryz.prog 38 #[.int .i64 e, v] w (Ret (.string R) w) := by
  obtain ⟨A, c, rfl, h1, h2, h3⟩ := sl_get h
  unfold maxLen at h2
  have HT := fun W s => hid (fT_c W s)
  have HYes := hid hyes
  have HNo := hid hno
  have HP := fun W u (h : Sl W 3 u ((l.map fT).map FldI.cells)) => hid (playx_c W u (l.map fT) h (fun f hf => by
    obtain ⟨x, hx, rfl⟩ := List.mem_map.1 hf
    exact ⟨hs x hx, fun h => (by (have h : true = false := h); cases h), by show (0 : Int) ≤ _; omega⟩) (by rw [List.length_map]; exact hp))
  have H3 := hid h3
  have HLp := hid hp
  clear h h3 hs hyes hno hp
  go_enter Tryz.func38, Tryz.ntmps38
  go_wp2_with fail
  go_loopw [5, 10] (fun s5 s10 wr => ∃ (k : Nat) (ov : Value), ov = s5 ∧ k ≤ l.length ∧ s10 = .int .i64 k ∧ Hid (Ext w wr) ∧ Hid (∀ s ∈ l.take k, s.size ≠ 0) ∧ Hid (k ≠ 0 → e = 0) ∧ Hid (OwnF ((l.take k).map fT) w.heap.size s5 wr)) (fun _ s10 _ => l.length - (intOf s10).toNat)
  case atStart => exact ⟨0, _, rfl, by omega, rfl, Ext.refl _, (fun s hs => by simp at hs), (fun h => absurd rfl h), ownsRow_nil _ _ _ _⟩
  case round =>
    obtain ⟨k, s5, rfl, hk, rfl, hE, hFl, hE0, hO⟩ := hrel
    by_cases hlt : k < l.length
    · have d1 : decide ((k : Int) < l.length) = true := decide_eq_true (by omega)
      have d1' : decide (k < l.length) = true := decide_eq_true hlt
      obtain ⟨b, o, rfl, lb, hcell⟩ := H3.out (by omega)
      have c0 := hE.out.cell (hcell k hlt 0 _ rfl)
      rw [Nat.mul_one, Nat.add_zero] at c0
      have lbr := Nat.lt_of_lt_of_le lb hE.out.size
      have HM : Hid ((l.take (k + 1)).map fT = (l.take k).map fT ++ [fT l[k]]) := by
        unfold Hid
        rw [List.take_succ_eq_append_getElem hlt, List.map_append]; rfl
      have HNe : Hid (l[k].size = 0 → (⟨#[]⟩ : ByteArray) = R) := fun h9 => HNo.out (.inr ⟨_, List.getElem_mem hlt, h9⟩)
      have HNe2 : Hid (e ≠ 0 → (⟨#[]⟩ : ByteArray) = R) := fun h9 => HNo.out (.inl h9)
      have HFn : Hid (l[k].size ≠ 0 → ∀ s ∈ l.take (k + 1), s.size ≠ 0) := fun h9 x hx => by
        rw [List.take_succ_eq_append_getElem hlt] at hx
        rcases List.mem_append.1 hx with hx | hx
        · exact hFl.out x hx
        · rw [List.mem_singleton.1 hx]; exact h9
      have hlen : ((l.take k).map fT).length ≤ 100000 := by rw [List.length_map, List.length_take]; omega
      clear H3 hcell HP hFl hE0 HYes HNo
      generalize hacc1 : (l.take (k + 1)).map fT = acc1 at HM
      have HA1 := hid hacc1
      clear hacc1
      generalize hacc : (l.take k).map fT = acc at hO HM hlen
      clear hacc
      generalize l[k] = x at c0 HM HNe HFn
      by_cases hx : x.size = 0
      · have hR := hid (HNe.out hx)
        have hx' : x = ⟨#[]⟩ := ByteArray.ext (Array.eq_empty_of_size_eq_zero hx)
        subst hx'
        clear hx HNe HNe2 HFn HM HA1 HT
        go_wp2_with fail
        go_ret
        exact ⟨by rw [← hR.out]; try rfl, hE.out⟩
      · have HFn := hid (HFn.out hx)
        have d0 : x.toList.isEmpty = false := by
          cases h : x.toList.isEmpty with
          | false => rfl
          | true => rw [← size_toL, List.isEmpty_iff.1 h] at hx; exact absurd rfl hx
        clear hx HNe
        by_cases he : e = 0
        · have d2 : (e != 0) = false := by simp [he]
          have HE0 := hid he
          clear he HNe2
          go_wp2_with fail
          refine ((HT _ _).out).mono ?_
          rintro en w4 ⟨rfl, x4⟩
          have hO4 := hid (hO.out.ext x4)
          have hE4 := hid (hE.out.trans x4)
          clear x4 hO hE c0 lb lbr
          obtain ⟨v', w6, hrun6, ho6, hk6, _⟩ := app_one (P := Tryz.prog) fld_elem fld_coded hO4.out hE4.out.size (fT x) (by omega) (by omega)
          simp only [FldI.cells, fT] at hrun6
          have HE6 := hid (hk6.toExt hE4.out (fun q hq => (row_block hO4.out q hq).1))
          have HO6 : Hid (OwnF acc1 w.heap.size v' w6) := by
            rw [HM.out]; exact ho6
          clear ho6 hk6
          go_wp2_with (at_builtin; refine wpList_app rfl (.tmp 20) (.tmp 23) _ _ rfl rfl rfl hrun6 ?_)
          go_roundw
          case rel => exact ⟨k + 1, _, rfl, by omega, by go_num, HE6, HFn.out, fun _ => HE0.out, by rw [HA1.out]; exact HO6⟩
          case measure => simp [intOf]; omega
        · have d2 : (e != 0) = true := by simp [he]
          have hR := hid (HNe2.out he)
          clear he HNe2 HM HA1 HT
          go_wp2_with fail
          go_ret
          exact ⟨by rw [← hR.out]; try rfl, hE.out⟩
    · obtain rfl : k = l.length := by omega
      rw [List.take_length] at hO hFl
      have HS := hid hO.out.sl
      have hR := hid (HYes.out (hE0.out (by have := HLp.out; omega)) hFl.out)
      clear hlt hk H3 HYes HNo hO HT hE0 hFl HLp
      generalize capL (l.map fT) = r at HP hR
      go_wp2_with fail
      refine ((HP _ _ HS.out).out).mono ?_
      rintro en w7 ⟨rfl, x7⟩
      have HE7 := hid (hE.out.trans x7)
      clear x7
      go_wp2_with fail
      go_ret
      exact ⟨by rw [hR.out]; try rfl, HE7.out⟩
/-- What is known of a whole claim's numbers. -/
structure FragOk (x : FragI) : Prop where
  v : in64L x.v
  n : ∀ y ∈ x.n, ver64 y
  l : x.n.length ≤ 90000
attribute [-simp] Tryz.isAgg44 Tryz.sizeOf44
set_option maxRecDepth 100000 in
set_option maxHeartbeats 4000000 in
theorem frag_c (w : World) (c : FragC) (x : FragI) (m : Int) (hm : w.cell? ⟨0, 0, none⟩ = some (.int .i64 m)) (hx : FragAt w c x) (hok : FragOk x) (hmay : mayF x = true) : Calls Tryz.prog 40 #[.agg c.arr] w (Ret (.string (capB (fragB x))) w) := by
  unfold mayF at hmay
  simp only [Bool.and_eq_true] at hmay
  obtain ⟨m1, m2, m3⟩ := hmay
  obtain ⟨e1, sf, sn⟩ := hx
  have hvl : x.v.length = 65 := by rw [← e1]; exact c.hv
  have HPf := fun W (hW : Ext w W) => hid (putF_c W _ x.f m (hW.cell hm) (sf.ext hW) (fun y hy => by have := ((clausesB_ok m1).2 y hy).pre; omega))
  have HPv := fun W => hid (putV_c W x.v hvl hok.v)
  have HPn := fun W (hW : Ext w W) => hid (putIx_c W _ x.n (sn.ext hW) hok.l hok.n)
  rw [m1] at HPf
  rw [m2] at HPv
  rw [m3] at HPn
  rw [show putB true (listB clB x.f) = listB clB x.f from rfl, show okZ true = 0 from rfl] at HPf
  rw [show putB true (listB verB (endsL x.v)) = listB verB (endsL x.v) from rfl, show okZ true = 0 from rfl] at HPv
  have hF1 := listC_size m1
  have hF0 := listB_pos clB x.f
  have hV1 : (listB verB (endsL x.v)).size ≤ 65536 := by
    have := listB_len verB (endsL x.v) 18 65 (by decide) (endsL_len x.v) (by decide) (fun y hy => verB_okle (endsL_ok hok.v y hy))
    rw [listB_size]; omega
  have hV0 := listB_pos verB (endsL x.v)
  have hN0 := listB_pos verB x.n
  have hF := hid (show fragB x = textB (listB clB x.f) ++ textB (listB verB (endsL x.v)) ++ textB (listB verB x.n) from rfl)
  generalize hr : fragB x = R at hF ⊢
  clear hr
  have HB := hid (Blk.new w 79 c.arr)
  have HE0 := hid (Ext.alloc w (.cells c.arr 79))
  have HF0 : Hid ((c.arr)[0]? = some c.f.val) := by unfold Hid FragC.arr; rw [List.getElem?_toArray]; exact fragC_f _
  have HF66 : Hid ((c.arr)[66]? = some c.n.val) := by unfold Hid FragC.arr; rw [List.getElem?_toArray]; exact fragC_n _
  have HFv := hid (fun j v (h : (vecV c.v)[j]? = some v) => (show (c.arr)[1 + j]? = some v by unfold FragC.arr; rw [List.getElem?_toArray]; exact fragC_v c j v h))
  have hz1 := hid (show (vecV c.v).size = 65 by rw [vecV_size]; exact c.hv)
  rw [e1] at HFv hz1
  generalize c.arr = arr at HB HE0 HF0 HF66 HFv ⊢
  obtain ⟨⟨f1, f2, f3⟩, _, ⟨n1, n2, n3⟩, _⟩ := c
  simp only [SlV.val] at HF0 HF66 HPf HPn
  generalize listB clB x.f = F at HPf hF hF1 hF0
  generalize listB verB (endsL x.v) = V at HPv hF hV1 hV0
  generalize listB verB x.n = N at HPn hF hN0
  generalize vecV x.v = X at HFv hz1 HPv
  have HR : Hid ((N.size ≤ 65536 → capL ([F, V, N].map fT) = capB R) ∧ (¬ N.size ≤ 65536 → capB R = ⟨#[]⟩)) := by
    refine ⟨fun _ => by rw [texts_three, hF.out], fun h9 => capB_no ?_⟩
    rw [hF.out, ByteArray.size_append]
    have := textB_ge N
    omega
  generalize capB R = R2 at HR ⊢
  have HTx : ∀ (W : World) (n' : ByteArray) (z : Int), (N.size ≤ 65536 ∧ n' = N ∧ z = 0 ∨ ¬ N.size ≤ 65536 ∧ n' = ⟨#[]⟩ ∧ z = 4) → Hid (Calls Tryz.prog 38 #[.int .i64 z, .slice (some ⟨W.heap.size, 0, none⟩) 3 3] (W.alloc (.cells #[.string F, .string V, .string n'] 9)) (Ret (.string R2) (W.alloc (.cells #[.string F, .string V, .string n'] 9)))) := fun W n' z hz => by
    refine texts_c _ _ [F, V, n'] z (sl_three W F V n') (by simp) (by simp) (fun s hs => ?_) R2 (fun h0 _ => ?_) (fun h0 => ?_)
    · simp only [List.mem_cons, List.not_mem_nil, or_false] at hs
      rcases hs with rfl | rfl | rfl
      · omega
      · exact hV1
      · rcases hz with ⟨h1, rfl, _⟩ | ⟨_, rfl, _⟩
        · exact h1
        · exact Nat.zero_le _
    · rcases hz with ⟨h1, rfl, _⟩ | ⟨_, _, rfl⟩
      · exact HR.out.1 h1
      · cases h0
    · rcases hz with ⟨h1, rfl, rfl⟩ | ⟨h1, _, _⟩
      · exfalso
        rcases h0 with h0 | ⟨s, hs, h0⟩
        · exact h0 rfl
        · simp only [List.mem_cons, List.not_mem_nil, or_false] at hs
          rcases hs with rfl | rfl | rfl
          · exact hF0 h0
          · exact hV0 h0
          · exact hN0 h0
      · exact (HR.out.2 h1).symm
  obtain ⟨n', z, hz, hpx, hex⟩ : ∃ (n' : ByteArray) (z : Int), (N.size ≤ 65536 ∧ n' = N ∧ z = 0 ∨ ¬ N.size ≤ 65536 ∧ n' = ⟨#[]⟩ ∧ z = 4) ∧ putX true N = n' ∧ errX true N = z := by
    by_cases h9 : N.size ≤ 65536
    · exact ⟨N, 0, .inl ⟨h9, rfl, rfl⟩, putX_ok (errX_zero.2 ⟨rfl, h9⟩), errX_zero.2 ⟨rfl, h9⟩⟩
    · exact ⟨⟨#[]⟩, 4, .inr ⟨h9, rfl, rfl⟩, by unfold putX; rw [if_pos rfl]; exact if_neg h9, by unfold errX; rw [if_pos rfl]; exact if_neg h9⟩
  rw [hpx, hex] at HPn
  have HTx := fun W => HTx W n' z hz
  have hz9 : z = 0 ∨ z = 4 := by rcases hz with ⟨_, _, h⟩ | ⟨_, _, h⟩ <;> simp [h]
  clear hz hpx hex HR hF hm m1 m2 m3 e1 sf sn hok hF1 hF0 hV1 hV0 hN0 hvl
  rcases hz9 with hz9 | hz9
  · subst hz9
    have c0 := HB.out.cell HF0.out
    have bl := HB.out.lt
    go_enter Tryz.func40, Tryz.ntmps40
    go_wp2_with fail
    refine ((HPf _ HE0.out).out).mono ?_
    rintro en w1 ⟨rfl, x1⟩
    have HB1 := hid (HB.out.ext x1)
    have HE1 := hid (HE0.out.trans x1)
    clear c0 bl x1 HB HE0 HPf HF0
    have HV1 := hid (fun j v (h : X[j]? = some v) => HB1.out.cell (HFv.out j v h))
    go_wp2_with fail
    simp only [Tryz.sizeOf44, Result.andThen]
    rw [if_neg (show ¬ (65 : Nat) = 0 by omega)]
    dsimp only
    rw [Oper.upon_value]
    go_wp2_with fail
    simp only [Tryz.isAgg44, Tryz.sizeOf44, Result.andThen, ↓reduceIte, run_loadCells_at HV1.out 65 hz1.out]
    rw [Oper.upon_value]
    go_wp2_with fail
    refine ((HPv _).out).mono ?_
    rintro en w2 ⟨rfl, x2⟩
    have HB2 := hid (HB1.out.ext x2)
    have HE2 := hid (HE1.out.trans x2)
    have c66 := HB2.out.cell HF66.out
    have bl := HB2.out.lt
    clear x2 HB1 HE1 HPv HF66 HV1 HFv
    go_wp2_with fail
    refine ((HPn _ HE2.out).out).mono ?_
    rintro en w3 ⟨rfl, x3⟩
    have HE3 := hid (HE2.out.trans x3)
    clear x3 c66 bl HB2 HE2 HPn
    go_wp2_with fail
    refine ((HTx _).out).mono ?_
    rintro en w4 ⟨rfl, x4⟩
    have HE4 := hid (HE3.out.trans ((Ext.alloc _ _).trans x4))
    clear x4 HE3 HTx
    go_wp2_with fail
    go_ret
    exact ⟨rfl, HE4.out⟩
  · subst hz9
    have c0 := HB.out.cell HF0.out
    have bl := HB.out.lt
    go_enter Tryz.func40, Tryz.ntmps40
    go_wp2_with fail
    refine ((HPf _ HE0.out).out).mono ?_
    rintro en w1 ⟨rfl, x1⟩
    have HB1 := hid (HB.out.ext x1)
    have HE1 := hid (HE0.out.trans x1)
    clear c0 bl x1 HB HE0 HPf HF0
    have HV1 := hid (fun j v (h : X[j]? = some v) => HB1.out.cell (HFv.out j v h))
    go_wp2_with fail
    simp only [Tryz.sizeOf44, Result.andThen]
    rw [if_neg (show ¬ (65 : Nat) = 0 by omega)]
    dsimp only
    rw [Oper.upon_value]
    go_wp2_with fail
    simp only [Tryz.isAgg44, Tryz.sizeOf44, Result.andThen, ↓reduceIte, run_loadCells_at HV1.out 65 hz1.out]
    rw [Oper.upon_value]
    go_wp2_with fail
    refine ((HPv _).out).mono ?_
    rintro en w2 ⟨rfl, x2⟩
    have HB2 := hid (HB1.out.ext x2)
    have HE2 := hid (HE1.out.trans x2)
    have c66 := HB2.out.cell HF66.out
    have bl := HB2.out.lt
    clear x2 HB1 HE1 HPv HF66 HV1 HFv
    go_wp2_with fail
    refine ((HPn _ HE2.out).out).mono ?_
    rintro en w3 ⟨rfl, x3⟩
    have HE3 := hid (HE2.out.trans x3)
    clear x3 c66 bl HB2 HE2 HPn
    go_wp2_with fail
    refine ((HTx _).out).mono ?_
    rintro en w4 ⟨rfl, x4⟩
    have HE4 := hid (HE3.out.trans ((Ext.alloc _ _).trans x4))
    clear x4 HE3 HTx
    go_wp2_with fail
    go_ret
    exact ⟨rfl, HE4.out⟩
/-- What is known of an item's claim's numbers. -/
structure KnownOk (x : KnownI) : Prop where
  v : in64L x.v
  i : ver64 x.i
theorem mayN_ok {x : KnownI} (hok : KnownOk x) (h : mayN x = true) : okVer x.i ∧ x.v = cleanL x.v := by
  unfold mayN at h
  simp only [Bool.and_eq_true, decide_eq_true_eq] at h
  obtain ⟨h1, h2⟩ := h
  unfold rightV at h1
  rw [decide_eq_true_eq] at h1
  have := hok.i
  unfold ver64 in64 at this
  exact ⟨by unfold okVer; omega, h2⟩
theorem known_enc {x : KnownI} (h : okVer x.i) : (⟨(encL [fN x.i.by_, fN x.i.n, fT (listB verB (endsL x.v))]).toArray⟩ : ByteArray) = knownB x := by
  apply ByteArray.ext
  apply Array.ext'
  unfold knownB verB
  simp only [ByteArray.data_append, Array.toList_append, textB_list, numB_list h.1, numB_list h.2.2.1]
  simp [encL, fT, fN, FldI.enc]
theorem knownB_le {x : KnownI} (hok : KnownOk x) (h : okVer x.i) : (knownB x).size ≤ 3000 := by
  have h1 : (listB verB (endsL x.v)).size ≤ 2000 := by
    have := listB_len verB (endsL x.v) 18 65 (by decide) (endsL_len x.v) (by decide) (fun y hy => verB_okle (endsL_ok hok.v y hy))
    rw [listB_size]; omega
  have h2 := textB_le (listB verB (endsL x.v)) (by omega)
  have h3 := verB_okle h
  unfold knownB
  rw [ByteArray.size_append]
  omega
set_option maxRecDepth 100000 in
set_option maxHeartbeats 4000000 in
theorem known_c (w : World) (x : KnownI) (hok : KnownOk x) (hmay : mayN x = true) : Calls Tryz.prog 42 #[.agg x.arr] w (Ret (.string (knownB x)) w) := by
  obtain ⟨hi, hcl⟩ := mayN_ok hok hmay
  have hmay1 : rightV x.i = true := by unfold mayN at hmay; simp only [Bool.and_eq_true] at hmay; exact hmay.1
  have HPv := fun W => hid (putV_c W x.v x.hv hok.v)
  rw [decide_eq_true hcl] at HPv
  rw [show putB true (listB verB (endsL x.v)) = listB verB (endsL x.v) from rfl, show okZ true = 0 from rfl] at HPv
  have hV1 : (listB verB (endsL x.v)).size ≤ 65536 := by
    have := listB_len verB (endsL x.v) 18 65 (by decide) (endsL_len x.v) (by decide) (fun y hy => verB_okle (endsL_ok hok.v y hy))
    rw [listB_size]; omega
  have HVr := fun W => hid (vcheck_c x.i W)
  rw [checkV_yes hmay1] at HVr
  have HVe := fun W => hid (pver_c W x.i)
  have HT := fun W s => hid (fT_c W s)
  unfold Ver.val at HVr HVe
  have henc := known_enc hi
  have hle : (encL [fN x.i.by_, fN x.i.n, fT (listB verB (endsL x.v))]).length ≤ 65536 := by
    have h1 := knownB_le hok hi
    rw [← henc] at h1
    have h2 : (⟨(encL [fN x.i.by_, fN x.i.n, fT (listB verB (endsL x.v))]).toArray⟩ : ByteArray).size = (encL [fN x.i.by_, fN x.i.n, fT (listB verB (endsL x.v))]).length := rfl
    omega
  have HP := fun W u (h : Sl W 3 u ([fN x.i.by_, fN x.i.n, fT (listB verB (endsL x.v))].map FldI.cells)) => hid (play_c W u [fN x.i.by_, fN x.i.n, fT (listB verB (endsL x.v))] h (fun f hf => by
    obtain ⟨a1, a2, a3, a4⟩ := hi
    simp only [List.mem_cons, List.not_mem_nil, or_false] at hf
    rcases hf with rfl | rfl | rfl
    · exact ⟨Nat.zero_le _, fun _ => a1, a2⟩
    · exact ⟨Nat.zero_le _, fun _ => a3, a4⟩
    · exact ⟨hV1, fun h => (by (have h : true = false := h); cases h), by show (0 : Int) ≤ _; omega⟩) (by simp) hle)
  rw [henc] at HP
  have HB := hid (Blk.new w 93 x.arr)
  have HE0 := hid (Ext.alloc w (.cells x.arr 93))
  have HF0 : Hid ((x.arr)[0]? = some (.int .i64 x.i.by_)) := rfl
  have HF1 : Hid ((x.arr)[1]? = some (.int .i64 x.i.n)) := rfl
  have HFv := hid (fun q v (h : (vecV x.v)[q]? = some v) => (show (x.arr)[2 + q]? = some v by unfold KnownI.arr; rw [List.getElem?_toArray]; exact known_v x q v h))
  have hz1 := hid (show (vecV x.v).size = 65 by rw [vecV_size]; exact x.hv)
  generalize knownB x = R at HP ⊢
  generalize x.arr = arr at HB HE0 HF0 HF1 HFv ⊢
  generalize listB verB (endsL x.v) = V at HPv HP
  generalize vecV x.v = X at HFv hz1 HPv
  clear henc hle hV1 hi hcl hmay1 hok hmay
  have HV1 := hid (fun j v (h : X[j]? = some v) => HB.out.cell (HFv.out j v h))
  have bl := HB.out.lt
  go_enter Tryz.func42, Tryz.ntmps42
  go_wp2_with fail
  simp only [Tryz.sizeOf44, Result.andThen]
  rw [if_neg (show ¬ (65 : Nat) = 0 by omega)]
  dsimp only
  rw [Oper.upon_value]
  go_wp2_with fail
  simp only [Tryz.isAgg44, Tryz.sizeOf44, Result.andThen, ↓reduceIte, run_loadCells_at HV1.out 65 hz1.out]
  rw [Oper.upon_value]
  go_wp2_with fail
  refine ((HPv _).out).mono ?_
  rintro en w2 ⟨rfl, x2⟩
  have HB2 := hid (HB.out.ext x2)
  have HE2 := hid (HE0.out.trans x2)
  clear x2 HB HE0 HPv HV1 HFv bl
  have c0 := HB2.out.cell HF0.out
  have c1 := HB2.out.cell HF1.out
  have bl := HB2.out.lt
  go_wp2_with fail
  refine ((HVr _).out).mono ?_
  rintro en w3 ⟨rfl, x3⟩
  have HB3 := hid (HB2.out.ext x3)
  have HE3 := hid (HE2.out.trans x3)
  clear x3 c0 c1 bl HB2 HE2 HVr
  have c0 := HB3.out.cell HF0.out
  have c1 := HB3.out.cell HF1.out
  have bl := HB3.out.lt
  go_wp2_with fail
  refine ((HVe _).out).mono ?_
  rintro en w4 ⟨u, rfl, ⟨ho, q, rfl⟩, x4⟩
  have HO4 := hid (ho.weak HE3.out.size)
  have HE4 := hid (HE3.out.trans x4)
  clear x4 c0 c1 bl HB3 HE3 HVe ho HF0 HF1
  go_wp2_with fail
  refine ((HT _ _).out).mono ?_
  rintro en w5 ⟨rfl, x5⟩
  have HO5 := hid (HO4.out.ext x5)
  have HE5 := hid (HE4.out.trans x5)
  clear x5 HO4 HE4 HT
  obtain ⟨v', w6, hrun6, ho6, hk6, _⟩ := app_one (P := Tryz.prog) fld_elem fld_coded HO5.out HE5.out.size (fT V) (by simp) (by decide)
  simp only [FldI.cells, fT, List.length_cons, List.length_nil] at hrun6
  have HE6 := hid (hk6.toExt HE5.out (fun q hq => (row_block HO5.out q hq).1))
  have HS6 : Hid (Sl w6 3 v' ([fN x.i.by_, fN x.i.n, fT V].map FldI.cells)) := OwnF.sl (l := [fN x.i.by_, fN x.i.n, fT V]) ho6
  clear ho6 hk6 HO5 HE5
  go_wp2_with (at_builtin; refine wpList_app rfl (.tmp 21) (.tmp 24) _ _ rfl rfl rfl hrun6 ?_)
  refine ((HP _ _ HS6.out).out).mono ?_
  rintro en w7 ⟨rfl, x7⟩
  have HE7 := hid (HE6.out.trans x7)
  clear x7 HS6 HE6
  go_wp2_with fail
  go_ret
  exact ⟨rfl, HE7.out⟩
end Go.Proofs.YtmbgakjkhgdjnaaGreatDoor
namespace Go.Proofs.YtmbgakjkhgdjnaaGreatDoor
set_option linter.unusedSimpArgs false
set_option linter.unusedVariables false
open Go.RowKit

attribute [-simp] Tryz.isAgg79 Tryz.sizeOf79 Tryz.isAgg93 Tryz.sizeOf93
set_option maxRecDepth 100000 in
set_option maxHeartbeats 4000000 in
theorem listFr_c (w : World) (v : Value) (l : List (FragC × FragI)) (enc : (FragC × FragI) → ByteArray) (h : Sl w 67 v (l.map (fun z : FragC × FragI => z.1.list))) (hl : l.length ≤ 100000) (hone : ∀ x ∈ l, ∀ W, Ext w W → Calls Tryz.prog 40 #[.agg x.1.arr] W (Ret (.string (capB (enc x))) W)) (hpos : ∀ x ∈ l, 0 < (enc x).size) : Calls Tryz.prog 39 #[v, .func (.func 40) #[] #[]] w (Ret (.string (capB (listB enc l))) w) := by
  obtain ⟨A, c, rfl, h1, h2, h3⟩ := sl_get h
  unfold maxLen at h2
  have HN := fun W n => hid (fN_c W n)
  have HT := fun W s => hid (fT_c W s)
  have HOne := hid hone
  have HPos := hid hpos
  have HBig := hid (fun x (hx : x ∈ l) (hb : ¬ (enc x).size ≤ 65536) => capB_list hx hb)
  have HP := fun (hfit : ∀ x ∈ l, (enc x).size ≤ 65536) W u (h : Sl W 3 u ((fN l.length :: l.map (fun x => fT (enc x))).map FldI.cells)) => hid (playx_c W u (fN l.length :: l.map (fun x => fT (enc x))) h (fun f hf => by
    rcases List.mem_cons.1 hf with rfl | hf
    · exact ⟨Nat.zero_le _, fun _ => Int.natCast_nonneg _, by show (l.length : Int) ≤ _; omega⟩
    · obtain ⟨x, hx, rfl⟩ := List.mem_map.1 hf
      exact ⟨hfit x hx, fun h => (by (have h : true = false := h); cases h), by show (0 : Int) ≤ _; omega⟩) (by simp))
  have e9 : capL (fN l.length :: l.map (fun x => fT (enc x))) = capB (listB enc l) := rfl
  rw [e9] at HP
  generalize capB (listB enc l) = R at HP HBig ⊢
  have H3 := hid h3
  clear h h3 hone hpos e9
  go_enter Tryz.func39, Tryz.ntmps39
  go_wp2_with fail
  refine ((HN _ _).out).mono ?_
  rintro en w1 ⟨rfl, x1⟩
  have HE1 := hid x1
  clear x1
  have HF0 : Hid (OwnF [fN l.length] w.heap.size (.slice (some ⟨w1.heap.size, 0, none⟩) 1 1) (w1.alloc (.cells #[.int .i64 l.length, .string ⟨#[]⟩, .bool false] 146))) := own_lit HE1.out.size 146 3 1 #[.int .i64 l.length, .string ⟨#[]⟩, .bool false] (by unfold maxLen; omega) rfl
  have HE2 := hid (HE1.out.alloc' (.cells #[.int .i64 l.length, .string ⟨#[]⟩, .bool false] 146))
  go_wp2_with fail
  generalize w1.alloc (.cells #[.int .i64 l.length, .string ⟨#[]⟩, .bool false] 146) = w2 at HF0 HE2 ⊢
  obtain ⟨v0, hv0⟩ : ∃ v0, v0 = Value.slice (some ⟨w1.heap.size, 0, none⟩) 1 1 := ⟨_, rfl⟩
  go_loopw [5, 15] (fun s5 s15 wr => ∃ (k : Nat) (ov : Value), ov = s5 ∧ k ≤ l.length ∧ s15 = .int .i64 k ∧ Hid (Ext w wr) ∧ Hid (∀ x ∈ l.take k, (enc x).size ≤ 65536) ∧ Hid (OwnF (fN l.length :: (l.take k).map (fun x => fT (enc x))) w.heap.size s5 wr)) (fun _ s15 _ => l.length - (intOf s15).toNat)
  case atStart => exact ⟨0, _, rfl, by omega, rfl, HE2, fun x hx => by simp at hx, HF0⟩
  case round =>
    obtain ⟨k, s5, rfl, hk, rfl, hE, hFit, hO⟩ := hrel
    clear HF0 HE2 HE1 hv0 HN
    by_cases hlt : k < l.length
    · have d1 : decide ((k : Int) < l.length) = true := decide_eq_true (by omega)
      have d1' : decide (k < l.length) = true := decide_eq_true hlt
      obtain ⟨b, o, rfl, lb, hcell⟩ := H3.out (by omega)
      have HG := hid (fun j u (hu : (l[k].1.arr)[j]? = some u) => hE.out.cell (hcell k hlt j u (by unfold FragC.arr at hu; simpa using hu)))
      have hzs := hid (fragC_arr l[k].1)
      have HOn := hid (fragC_oneA l[k].1)
      have lbr := Nat.lt_of_lt_of_le lb hE.out.size
      have HM : Hid ((l.take (k + 1)).map (fun x => fT (enc x)) = (l.take k).map (fun x => fT (enc x)) ++ [fT (enc l[k])]) := by
        unfold Hid
        rw [List.take_succ_eq_append_getElem hlt, List.map_append]; rfl
      have HC := HOne.out l[k] (List.getElem_mem hlt)
      have hp := (HPos.out l[k] (List.getElem_mem hlt))
      have HBk := hid (HBig.out l[k] (List.getElem_mem hlt))
      have HFt : Hid ((enc l[k]).size ≤ 65536 → ∀ x ∈ l.take (k + 1), (enc x).size ≤ 65536) := fun h9 x hx => by
        rw [List.take_succ_eq_append_getElem hlt] at hx
        rcases List.mem_append.1 hx with hx | hx
        · exact hFit.out x hx
        · rw [List.mem_singleton.1 hx]; exact h9
      have hlen : ((l.take k).map (fun x => fT (enc x))).length ≤ 100000 := by rw [List.length_map, List.length_take]; omega
      clear H3 hcell HOne HPos HP HBig hFit
      generalize hacc1 : (l.take (k + 1)).map (fun x => fT (enc x)) = acc1 at HM
      have HA1 := hid hacc1
      clear hacc1
      generalize hacc : (l.take k).map (fun x => fT (enc x)) = acc at hO HM hlen
      clear hacc
      generalize l[k] = x at HG hzs HOn HC HM hp HBk HFt
      by_cases hfit : (enc x).size ≤ 65536
      · have hcap : capB (enc x) = enc x := if_pos hfit
        rw [hcap] at HC
        have HFt := hid (HFt.out hfit)
        have d0 : (enc x).toList.isEmpty = false := by
          cases h : (enc x).toList.isEmpty with
          | false => rfl
          | true => rw [← size_toL, List.isEmpty_iff.1 h] at hp; exact absurd hp (by decide)
        clear hp hfit hcap HBk
        generalize enc x = r at HC HM d0
        generalize x.1.arr = arr at HG hzs HOn HC
        go_wp2_with fail
        simp only [Tryz.sizeOf79, Result.andThen]
        rw [Oper.upon_value]
        go_wp2_with fail
        simp only [Tryz.isAgg79, Tryz.sizeOf79, Result.andThen, ↓reduceIte, run_loadCells_at HG.out 67 hzs.out]
        rw [Oper.upon_value]
        go_wp2_with fail
        have HB3 := hid (Blk.new wr 79 fragZ)
        simp only [Tryz.sizeOf79, Result.andThen, ↓reduceIte, run_storeCells_blk HB3.out (by rw [hzs.out]; exact frag_size) (by rw [hzs.out, fragZ_size]) HOn.out, hzs.out]
        rw [Oper.upon_skip]
        rw [World.setRow_alloc_new]
        have HB2 := hid (Blk.new wr 79 arr)
        have X2 := hid (Ext.alloc wr (.cells arr 79))
        clear HB3 HG HOn
        go_wp2_with fail
        generalize wr.alloc (.cells arr 79) = w2 at HB2 X2 ⊢
        simp only [Tryz.isAgg79, Tryz.sizeOf79, Result.andThen, ↓reduceIte, run_loadCells_blk HB2.out 67 hzs.out]
        rw [Oper.upon_value]
        go_wp2_with fail
        refine (HC _ (hE.out.trans X2.out)).mono ?_
        rintro en w3 ⟨rfl, x3⟩
        have hO3 := hid (hO.out.ext (X2.out.trans x3))
        have hE3 := hid (hE.out.trans (X2.out.trans x3))
        clear x3 lbr lb hE hO HC HB2 X2
        go_wp2_with fail
        refine ((HT _ _).out).mono ?_
        rintro en w4 ⟨rfl, x4⟩
        have hO4 := hid (hO3.out.ext x4)
        have hE4 := hid (hE3.out.trans x4)
        clear x4 hO3 hE3
        obtain ⟨v', w6, hrun6, ho6, hk6, _⟩ := app_one (P := Tryz.prog) fld_elem fld_coded hO4.out hE4.out.size (fT r) (by simp; omega) (by omega)
        simp only [FldI.cells, fT] at hrun6
        have HE6 := hid (hk6.toExt hE4.out (fun q hq => (row_block hO4.out q hq).1))
        have HO6 : Hid (OwnF (fN l.length :: acc1) w.heap.size v' w6) := by
          rw [HM.out]; exact ho6
        clear ho6 hk6
        go_wp2_with (at_builtin; refine wpList_app rfl (.tmp 24) (.tmp 27) _ _ rfl rfl rfl hrun6 ?_)
        go_roundw
        case rel => exact ⟨k + 1, _, rfl, by omega, by go_num, HE6, HFt.out, by rw [HA1.out]; exact HO6⟩
        case measure => simp [intOf]; omega
      · have hcap : capB (enc x) = ⟨#[]⟩ := if_neg hfit
        rw [hcap] at HC
        have HR := hid (HBk.out hfit)
        clear hp hfit hcap HBk HFt HM HA1 HT
        generalize x.1.arr = arr at HG hzs HOn HC
        go_wp2_with fail
        simp only [Tryz.sizeOf79, Result.andThen]
        rw [Oper.upon_value]
        go_wp2_with fail
        simp only [Tryz.isAgg79, Tryz.sizeOf79, Result.andThen, ↓reduceIte, run_loadCells_at HG.out 67 hzs.out]
        rw [Oper.upon_value]
        go_wp2_with fail
        have HB3 := hid (Blk.new wr 79 fragZ)
        simp only [Tryz.sizeOf79, Result.andThen, ↓reduceIte, run_storeCells_blk HB3.out (by rw [hzs.out]; exact frag_size) (by rw [hzs.out, fragZ_size]) HOn.out, hzs.out]
        rw [Oper.upon_skip]
        rw [World.setRow_alloc_new]
        have HB2 := hid (Blk.new wr 79 arr)
        have X2 := hid (Ext.alloc wr (.cells arr 79))
        clear HB3 HG HOn
        go_wp2_with fail
        generalize wr.alloc (.cells arr 79) = w2 at HB2 X2 ⊢
        simp only [Tryz.isAgg79, Tryz.sizeOf79, Result.andThen, ↓reduceIte, run_loadCells_blk HB2.out 67 hzs.out]
        rw [Oper.upon_value]
        go_wp2_with fail
        refine (HC _ (hE.out.trans X2.out)).mono ?_
        rintro en w3 ⟨rfl, x3⟩
        have hE3 := hid (hE.out.trans (X2.out.trans x3))
        clear x3 lbr lb hE hO HC HB2 X2
        go_wp2_with fail
        go_ret
        exact ⟨by rw [HR.out]; try rfl, hE3.out⟩
    · obtain rfl : k = l.length := by omega
      rw [List.take_length] at hO hFit
      have HS := hid hO.out.sl
      have HP' := HP hFit.out
      clear hlt hk H3 HOne HPos hO HT HP HBig
      go_wp2_with fail
      refine ((HP' _ _ HS.out).out).mono ?_
      rintro en w7 ⟨rfl, x7⟩
      have HE7 := hid (hE.out.trans x7)
      clear x7
      go_wp2_with fail
      go_ret
      exact ⟨rfl, HE7.out⟩
set_option maxRecDepth 100000 in
set_option maxHeartbeats 4000000 in
theorem listKn_c (w : World) (v : Value) (l : List KnownI) (enc : KnownI → ByteArray) (h : Sl w 67 v (l.map KnownI.list)) (hl : l.length ≤ 100000) (hone : ∀ x ∈ l, ∀ W, Ext w W → Calls Tryz.prog 42 #[.agg x.arr] W (Ret (.string (capB (enc x))) W)) (hpos : ∀ x ∈ l, 0 < (enc x).size) : Calls Tryz.prog 41 #[v, .func (.func 42) #[] #[]] w (Ret (.string (capB (listB enc l))) w) := by
  obtain ⟨A, c, rfl, h1, h2, h3⟩ := sl_get h
  unfold maxLen at h2
  have HN := fun W n => hid (fN_c W n)
  have HT := fun W s => hid (fT_c W s)
  have HOne := hid hone
  have HPos := hid hpos
  have HBig := hid (fun x (hx : x ∈ l) (hb : ¬ (enc x).size ≤ 65536) => capB_list hx hb)
  have HP := fun (hfit : ∀ x ∈ l, (enc x).size ≤ 65536) W u (h : Sl W 3 u ((fN l.length :: l.map (fun x => fT (enc x))).map FldI.cells)) => hid (playx_c W u (fN l.length :: l.map (fun x => fT (enc x))) h (fun f hf => by
    rcases List.mem_cons.1 hf with rfl | hf
    · exact ⟨Nat.zero_le _, fun _ => Int.natCast_nonneg _, by show (l.length : Int) ≤ _; omega⟩
    · obtain ⟨x, hx, rfl⟩ := List.mem_map.1 hf
      exact ⟨hfit x hx, fun h => (by (have h : true = false := h); cases h), by show (0 : Int) ≤ _; omega⟩) (by simp))
  have e9 : capL (fN l.length :: l.map (fun x => fT (enc x))) = capB (listB enc l) := rfl
  rw [e9] at HP
  generalize capB (listB enc l) = R at HP HBig ⊢
  have H3 := hid h3
  clear h h3 hone hpos e9
  go_enter Tryz.func41, Tryz.ntmps41
  go_wp2_with fail
  refine ((HN _ _).out).mono ?_
  rintro en w1 ⟨rfl, x1⟩
  have HE1 := hid x1
  clear x1
  have HF0 : Hid (OwnF [fN l.length] w.heap.size (.slice (some ⟨w1.heap.size, 0, none⟩) 1 1) (w1.alloc (.cells #[.int .i64 l.length, .string ⟨#[]⟩, .bool false] 146))) := own_lit HE1.out.size 146 3 1 #[.int .i64 l.length, .string ⟨#[]⟩, .bool false] (by unfold maxLen; omega) rfl
  have HE2 := hid (HE1.out.alloc' (.cells #[.int .i64 l.length, .string ⟨#[]⟩, .bool false] 146))
  go_wp2_with fail
  generalize w1.alloc (.cells #[.int .i64 l.length, .string ⟨#[]⟩, .bool false] 146) = w2 at HF0 HE2 ⊢
  obtain ⟨v0, hv0⟩ : ∃ v0, v0 = Value.slice (some ⟨w1.heap.size, 0, none⟩) 1 1 := ⟨_, rfl⟩
  go_loopw [5, 15] (fun s5 s15 wr => ∃ (k : Nat) (ov : Value), ov = s5 ∧ k ≤ l.length ∧ s15 = .int .i64 k ∧ Hid (Ext w wr) ∧ Hid (∀ x ∈ l.take k, (enc x).size ≤ 65536) ∧ Hid (OwnF (fN l.length :: (l.take k).map (fun x => fT (enc x))) w.heap.size s5 wr)) (fun _ s15 _ => l.length - (intOf s15).toNat)
  case atStart => exact ⟨0, _, rfl, by omega, rfl, HE2, fun x hx => by simp at hx, HF0⟩
  case round =>
    obtain ⟨k, s5, rfl, hk, rfl, hE, hFit, hO⟩ := hrel
    clear HF0 HE2 HE1 hv0 HN
    by_cases hlt : k < l.length
    · have d1 : decide ((k : Int) < l.length) = true := decide_eq_true (by omega)
      have d1' : decide (k < l.length) = true := decide_eq_true hlt
      obtain ⟨b, o, rfl, lb, hcell⟩ := H3.out (by omega)
      have HG := hid (fun j u (hu : (l[k].arr)[j]? = some u) => hE.out.cell (hcell k hlt j u (by unfold KnownI.arr at hu; simpa using hu)))
      have hzs := hid (known_arr l[k])
      have HOn := hid (known_oneA l[k])
      have lbr := Nat.lt_of_lt_of_le lb hE.out.size
      have HM : Hid ((l.take (k + 1)).map (fun x => fT (enc x)) = (l.take k).map (fun x => fT (enc x)) ++ [fT (enc l[k])]) := by
        unfold Hid
        rw [List.take_succ_eq_append_getElem hlt, List.map_append]; rfl
      have HC := HOne.out l[k] (List.getElem_mem hlt)
      have hp := (HPos.out l[k] (List.getElem_mem hlt))
      have HBk := hid (HBig.out l[k] (List.getElem_mem hlt))
      have HFt : Hid ((enc l[k]).size ≤ 65536 → ∀ x ∈ l.take (k + 1), (enc x).size ≤ 65536) := fun h9 x hx => by
        rw [List.take_succ_eq_append_getElem hlt] at hx
        rcases List.mem_append.1 hx with hx | hx
        · exact hFit.out x hx
        · rw [List.mem_singleton.1 hx]; exact h9
      have hlen : ((l.take k).map (fun x => fT (enc x))).length ≤ 100000 := by rw [List.length_map, List.length_take]; omega
      clear H3 hcell HOne HPos HP HBig hFit
      generalize hacc1 : (l.take (k + 1)).map (fun x => fT (enc x)) = acc1 at HM
      have HA1 := hid hacc1
      clear hacc1
      generalize hacc : (l.take k).map (fun x => fT (enc x)) = acc at hO HM hlen
      clear hacc
      generalize l[k] = x at HG hzs HOn HC HM hp HBk HFt
      by_cases hfit : (enc x).size ≤ 65536
      · have hcap : capB (enc x) = enc x := if_pos hfit
        rw [hcap] at HC
        have HFt := hid (HFt.out hfit)
        have d0 : (enc x).toList.isEmpty = false := by
          cases h : (enc x).toList.isEmpty with
          | false => rfl
          | true => rw [← size_toL, List.isEmpty_iff.1 h] at hp; exact absurd hp (by decide)
        clear hp hfit hcap HBk
        generalize enc x = r at HC HM d0
        generalize x.arr = arr at HG hzs HOn HC
        go_wp2_with fail
        simp only [Tryz.sizeOf93, Result.andThen]
        rw [Oper.upon_value]
        go_wp2_with fail
        simp only [Tryz.isAgg93, Tryz.sizeOf93, Result.andThen, ↓reduceIte, run_loadCells_at HG.out 67 hzs.out]
        rw [Oper.upon_value]
        go_wp2_with fail
        have HB3 := hid (Blk.new wr 93 knownZ)
        simp only [Tryz.sizeOf93, Result.andThen, ↓reduceIte, run_storeCells_blk HB3.out (by rw [hzs.out]; exact known_size) (by rw [hzs.out, knownZ_size]) HOn.out, hzs.out]
        rw [Oper.upon_skip]
        rw [World.setRow_alloc_new]
        have HB2 := hid (Blk.new wr 93 arr)
        have X2 := hid (Ext.alloc wr (.cells arr 93))
        clear HB3 HG HOn
        go_wp2_with fail
        generalize wr.alloc (.cells arr 93) = w2 at HB2 X2 ⊢
        simp only [Tryz.isAgg93, Tryz.sizeOf93, Result.andThen, ↓reduceIte, run_loadCells_blk HB2.out 67 hzs.out]
        rw [Oper.upon_value]
        go_wp2_with fail
        refine (HC _ (hE.out.trans X2.out)).mono ?_
        rintro en w3 ⟨rfl, x3⟩
        have hO3 := hid (hO.out.ext (X2.out.trans x3))
        have hE3 := hid (hE.out.trans (X2.out.trans x3))
        clear x3 lbr lb hE hO HC HB2 X2
        go_wp2_with fail
        refine ((HT _ _).out).mono ?_
        rintro en w4 ⟨rfl, x4⟩
        have hO4 := hid (hO3.out.ext x4)
        have hE4 := hid (hE3.out.trans x4)
        clear x4 hO3 hE3
        obtain ⟨v', w6, hrun6, ho6, hk6, _⟩ := app_one (P := Tryz.prog) fld_elem fld_coded hO4.out hE4.out.size (fT r) (by simp; omega) (by omega)
        simp only [FldI.cells, fT] at hrun6
        have HE6 := hid (hk6.toExt hE4.out (fun q hq => (row_block hO4.out q hq).1))
        have HO6 : Hid (OwnF (fN l.length :: acc1) w.heap.size v' w6) := by
          rw [HM.out]; exact ho6
        clear ho6 hk6
        go_wp2_with (at_builtin; refine wpList_app rfl (.tmp 24) (.tmp 27) _ _ rfl rfl rfl hrun6 ?_)
        go_roundw
        case rel => exact ⟨k + 1, _, rfl, by omega, by go_num, HE6, HFt.out, by rw [HA1.out]; exact HO6⟩
        case measure => simp [intOf]; omega
      · have hcap : capB (enc x) = ⟨#[]⟩ := if_neg hfit
        rw [hcap] at HC
        have HR := hid (HBk.out hfit)
        clear hp hfit hcap HBk HFt HM HA1 HT
        generalize x.arr = arr at HG hzs HOn HC
        go_wp2_with fail
        simp only [Tryz.sizeOf93, Result.andThen]
        rw [Oper.upon_value]
        go_wp2_with fail
        simp only [Tryz.isAgg93, Tryz.sizeOf93, Result.andThen, ↓reduceIte, run_loadCells_at HG.out 67 hzs.out]
        rw [Oper.upon_value]
        go_wp2_with fail
        have HB3 := hid (Blk.new wr 93 knownZ)
        simp only [Tryz.sizeOf93, Result.andThen, ↓reduceIte, run_storeCells_blk HB3.out (by rw [hzs.out]; exact known_size) (by rw [hzs.out, knownZ_size]) HOn.out, hzs.out]
        rw [Oper.upon_skip]
        rw [World.setRow_alloc_new]
        have HB2 := hid (Blk.new wr 93 arr)
        have X2 := hid (Ext.alloc wr (.cells arr 93))
        clear HB3 HG HOn
        go_wp2_with fail
        generalize wr.alloc (.cells arr 93) = w2 at HB2 X2 ⊢
        simp only [Tryz.isAgg93, Tryz.sizeOf93, Result.andThen, ↓reduceIte, run_loadCells_blk HB2.out 67 hzs.out]
        rw [Oper.upon_value]
        go_wp2_with fail
        refine (HC _ (hE.out.trans X2.out)).mono ?_
        rintro en w3 ⟨rfl, x3⟩
        have hE3 := hid (hE.out.trans (X2.out.trans x3))
        clear x3 lbr lb hE hO HC HB2 X2
        go_wp2_with fail
        go_ret
        exact ⟨by rw [HR.out]; try rfl, hE3.out⟩
    · obtain rfl : k = l.length := by omega
      rw [List.take_length] at hO hFit
      have HS := hid hO.out.sl
      have HP' := HP hFit.out
      clear hlt hk H3 HOne HPos hO HT HP HBig
      go_wp2_with fail
      refine ((HP' _ _ HS.out).out).mono ?_
      rintro en w7 ⟨rfl, x7⟩
      have HE7 := hid (hE.out.trans x7)
      clear x7
      go_wp2_with fail
      go_ret
      exact ⟨rfl, HE7.out⟩
end Go.Proofs.YtmbgakjkhgdjnaaGreatDoor
namespace Go.Proofs.YtmbgakjkhgdjnaaGreatDoor
set_option linter.unusedSimpArgs false
set_option linter.unusedVariables false
open Go.RowKit

/-- What is known of knowledge's numbers. -/
structure KnowOk (k : KnowI) : Prop where
  fs : ∀ x ∈ k.fs, FragOk x
  sz : ∀ x ∈ k.fs, ∀ c ∈ x.f, c.pre.size ≤ 90000
  ks : ∀ x ∈ k.ks, KnownOk x
theorem KnowOk.fsz {k : KnowI} (h : KnowOk k) : ∀ x ∈ k.fs, fragSz x := fun x hx => ⟨h.sz x hx, (h.fs x hx).l⟩
theorem zip_snd {α β : Type} : ∀ (a : List α) (b : List β), a.length = b.length → (a.zip b).map (·.2) = b
  | [], [], _ => rfl
  | x :: a, y :: b, h => by simp at h; simp [zip_snd a b h]
  | [], y :: b, h => by simp at h
  | x :: a, [], h => by simp at h
theorem zip_fst {α β : Type} : ∀ (a : List α) (b : List β), a.length = b.length → (a.zip b).map (·.1) = a
  | [], [], _ => rfl
  | x :: a, y :: b, h => by simp at h; simp [zip_fst a b h]
  | [], y :: b, h => by simp at h
  | x :: a, [], h => by simp at h
theorem listB_zip {α β : Type} (enc : β → ByteArray) (a : List α) (b : List β) (h : a.length = b.length) : listB (fun z : α × β => enc z.2) (a.zip b) = listB enc b := by
  have e := zip_snd a b h
  have e2 : (a.zip b).map (fun z : α × β => fT (enc z.2)) = b.map (fun x => fT (enc x)) := by
    conv => rhs; rw [← e, List.map_map]
    rfl
  unfold listB
  rw [e2, show (a.zip b).length = b.length by have := congrArg List.length e; rw [List.length_map] at this; exact this]
theorem zip_at {α β : Type} {a : List α} {b : List β} {z : α × β} (hz : z ∈ a.zip b) : ∃ i : Nat, a[i]? = some z.1 ∧ b[i]? = some z.2 := by
  obtain ⟨i, hi, rfl⟩ := List.getElem_of_mem hz
  refine ⟨i, ?_, ?_⟩
  · rw [List.getElem_zip]
    exact List.getElem?_eq_getElem _
  · rw [List.getElem_zip]
    exact List.getElem?_eq_getElem _
theorem mayB_parts {k : KnowI} (h : mayB k = true) : (∀ x ∈ k.fs, mayF x = true) ∧ (∀ x ∈ k.ks, mayN x = true) ∧ k.fs.length ≤ 64 ∧ k.ks.length ≤ 4096 := by
  unfold mayB at h
  simp only [Bool.and_eq_true, decide_eq_true_eq, List.all_eq_true] at h
  exact ⟨h.1, h.2.1, h.2.2.1, h.2.2.2⟩
theorem knowB_pos (k : KnowI) : (knowB k).size ≠ 0 := by
  unfold knowB
  rw [ByteArray.size_append]
  have := textB_ge (listB fragB k.fs)
  omega
set_option maxRecDepth 100000 in
set_option maxHeartbeats 4000000 in
theorem putK_c (w : World) (ua va : Value) (k : KnowI) (m : Int) (hm : w.cell? ⟨0, 0, none⟩ = some (.int .i64 m)) (h : KnowAt w ua va k) (hok : KnowOk k) : Calls Tryz.prog 10 #[.agg #[ua, va]] w (Ret (.tuple #[.string (putX (mayB k) (knowB k)), .int .i64 (errX (mayB k) (knowB k))]) w) := by
  have HMay := fun W (hW : Ext w W) => hid (kmay_c W ua va k m (hW.cell hm) (h.ext hW) hok.fsz)
  have HE0 := hid (Ext.alloc w (.cells #[ua, va] 25))
  cases hb : mayB k with
  | false =>
    rw [hb] at HMay
    rw [show putX false (knowB k) = ⟨#[]⟩ from rfl, show errX false (knowB k) = 2 from rfl]
    obtain ⟨⟨cs, -, -, hcs⟩, hak⟩ := h
    obtain ⟨A, c1, rfl, _⟩ := sl_get hcs
    obtain ⟨C, c3, rfl, _⟩ := sl_get hak
    clear hcs hak hb hok hm
    go_enter Tryz.func10, Tryz.ntmps10
    go_wp2_with fail
    refine ((HMay _ HE0.out).out).mono ?_
    rintro e w1 ⟨rfl, x1⟩
    have X1 := hid (HE0.out.trans x1)
    clear x1
    go_wp2_with fail
    go_ret2
    exact ⟨rfl, X1.out⟩
  | true =>
    rw [hb] at HMay
    obtain ⟨b1, b2, b3, b4⟩ := mayB_parts hb
    obtain ⟨⟨cs, hcl, hca, hcs⟩, hak⟩ := h
    have HLf := fun W (hW : Ext w W) => hid (listFr_c W ua (cs.zip k.fs) (fun z => fragB z.2) (by
      have e : (cs.zip k.fs).map (fun z : FragC × FragI => z.1.list) = cs.map FragC.list := by
        conv => rhs; rw [← zip_fst cs k.fs hcl, List.map_map]
        rfl
      rw [e]; exact hcs.ext hW) (by rw [List.length_zip]; omega) (fun z hz W' hW' => by
      obtain ⟨i, i1, i2⟩ := zip_at hz
      have hm2 := List.mem_of_getElem? i2
      exact frag_c W' z.1 z.2 m ((hW.trans hW').cell hm) ((hca i _ _ i1 i2).ext (hW.trans hW')) (hok.fs _ hm2) (b1 _ hm2)) (fun z _ => fragB_pos z.2))
    rw [listB_zip fragB cs k.fs hcl] at HLf
    have HLk := fun W (hW : Ext w W) => hid (listKn_c W va k.ks knownB (hak.ext hW) (by omega) (fun x hx W' hW' => by
      have h9 := knownB_le (hok.ks x hx) (mayN_ok (hok.ks x hx) (b2 x hx)).1
      rw [capB_ok (by omega)]
      exact known_c W' x (hok.ks x hx) (b2 x hx)) (fun x _ => knownB_pos x))
    have HFs := fun W => hid (fits_c W (capB (knowB k)) true)
    rw [(fits_cap (knowB_pos k)).1, (fits_cap (knowB_pos k)).2] at HFs
    have HTx := fun W v (hv : Sl W 1 v ([capB (listB fragB k.fs), capB (listB knownB k.ks)].map txC)) => hid (texts_c W v [capB (listB fragB k.fs), capB (listB knownB k.ks)] 0 hv (by simp) (by simp) (fun s hs => by
      simp only [List.mem_cons, List.not_mem_nil, or_false] at hs
      rcases hs with rfl | rfl
      · exact capB_le _
      · exact capB_le _) (capB (knowB k)) (fun _ hne => by
      have h1 : capB (listB fragB k.fs) = listB fragB k.fs := by
        by_cases h9 : (listB fragB k.fs).size ≤ 65536
        · exact capB_ok h9
        · exact absurd (show (capB (listB fragB k.fs)).size = 0 by rw [capB_no (by omega)]; rfl) (hne _ (by simp))
      have h2 : capB (listB knownB k.ks) = listB knownB k.ks := by
        by_cases h9 : (listB knownB k.ks).size ≤ 65536
        · exact capB_ok h9
        · exact absurd (show (capB (listB knownB k.ks)).size = 0 by rw [capB_no (by omega)]; rfl) (hne _ (by simp))
      rw [h1, h2, texts_two]; rfl) (fun h0 => by
      rcases h0 with h0 | ⟨s, hs, h0⟩
      · exact absurd rfl h0
      · refine (capB_no ?_).symm
        unfold knowB
        rw [ByteArray.size_append]
        have t1 := textB_ge (listB fragB k.fs)
        have t2 := textB_ge (listB knownB k.ks)
        have p1 := listB_pos fragB k.fs
        have p2 := listB_pos knownB k.ks
        simp only [List.mem_cons, List.not_mem_nil, or_false] at hs
        rcases hs with rfl | rfl
        · by_cases h9 : (listB fragB k.fs).size ≤ 65536
          · rw [capB_ok h9] at h0; omega
          · omega
        · by_cases h9 : (listB knownB k.ks).size ≤ 65536
          · rw [capB_ok h9] at h0; omega
          · omega))
    obtain ⟨A, c1, rfl, _⟩ := sl_get hcs
    obtain ⟨C, c3, rfl, _⟩ := sl_get hak
    clear hcs hak hb hok hm b1 b2 b3 b4 hca hcl
    generalize capB (listB fragB k.fs) = a' at HLf HTx
    generalize capB (listB knownB k.ks) = b' at HLk HTx
    generalize capB (knowB k) = r at HTx HFs
    generalize putX true (knowB k) = r2 at HFs ⊢
    generalize errX true (knowB k) = z2 at HFs ⊢
    have HBk := hid (Blk.new w 25 #[.slice A cs.length c1, .slice C k.ks.length c3])
    go_enter Tryz.func10, Tryz.ntmps10
    go_wp2_with fail
    refine ((HMay _ HE0.out).out).mono ?_
    rintro e w1 ⟨rfl, x1⟩
    have X1 := hid (HE0.out.trans x1)
    have B1 := hid (HBk.out.ext x1)
    have k0 := B1.out.cell (i := 0) rfl
    have k1 := B1.out.cell (i := 1) rfl
    have kl := B1.out.lt
    clear x1 HE0 HMay HBk
    go_wp2_with fail
    refine wp_region_any_order (by kernel_rfl) (by kernel_rfl) (by kernel_rfl) ?_
    repeat (first
      | (refine AWq.val rfl rfl rfl rfl (fun K hK => ?_); go_big_quiet_op; refine hK _ ?_; clear hK K)
      | (refine AWq.skip rfl rfl rfl ?_; simp only [Act.put, List.setIfInBounds_toArray, List.set_cons_succ, List.set_cons_zero])
      | (refine AWq.call rfl Tryz.func39 (by kernel_rfl) (by kernel_rfl) rfl rfl rfl ?_; apply Exists.intro; refine And.intro (fun wc hc => ?_) ?_; (· (simp only [argsOf, anyAt, ↓reduceIte, Nat.reduceEqDiff, Array.getD_eq_getD_getElem?, List.getElem?_toArray, List.getElem?_cons_succ, List.getElem?_cons_zero, Option.getD_some]; with_reducible exact (HLf _ (X1.out.trans hc)).out)); simp only [Act.put, List.setIfInBounds_toArray, List.set_cons_succ, List.set_cons_zero])
      | (refine AWq.call rfl Tryz.func41 (by kernel_rfl) (by kernel_rfl) rfl rfl rfl ?_; apply Exists.intro; refine And.intro (fun wc hc => ?_) ?_; (· (simp only [argsOf, anyAt, ↓reduceIte, Nat.reduceEqDiff, Array.getD_eq_getD_getElem?, List.getElem?_toArray, List.getElem?_cons_succ, List.getElem?_cons_zero, Option.getD_some]; with_reducible exact (HLk _ (X1.out.trans hc)).out)); simp only [Act.put, List.setIfInBounds_toArray, List.set_cons_succ, List.set_cons_zero])
      | (refine AWq.call rfl Tryz.func38 (by kernel_rfl) (by kernel_rfl) rfl rfl rfl ?_; apply Exists.intro; refine And.intro (fun wc hc => ?_) ?_; (· (simp only [argsOf, anyAt, ↓reduceIte, Nat.reduceEqDiff, Array.getD_eq_getD_getElem?, List.getElem?_toArray, List.getElem?_cons_succ, List.getElem?_cons_zero, Option.getD_some]; intro y hy; exact (HTx _ _ hy).out)); simp only [Act.put, List.setIfInBounds_toArray, List.set_cons_succ, List.set_cons_zero])
      | (refine AWq.call rfl Tryz.func37 (by kernel_rfl) (by kernel_rfl) rfl rfl rfl ?_; apply Exists.intro; refine And.intro (fun wc hc => ?_) ?_; (· (simp only [argsOf, anyAt, ↓reduceIte, Nat.reduceEqDiff, Array.getD_eq_getD_getElem?, List.getElem?_toArray, List.getElem?_cons_succ, List.getElem?_cons_zero, Option.getD_some]; with_reducible exact (HFs _).out)); simp only [Act.put, List.setIfInBounds_toArray, List.set_cons_succ, List.set_cons_zero])
      | (refine AWq.opV (fun v W => Sl W 1 v ([a', b'].map txC)) (fun v _ _ he h => h.ext he) rfl rfl rfl rfl (fun wc hc => ?_) ?_; (· (have hc' := hc.rule; clear hc; go_simp; dsimp only [Gives]; exact ⟨sl_two wc a' b', Ext.alloc _ _⟩))))
    refine AWq.done rfl rfl rfl (fun w2 x2 => ?_)
    simp only [closeAny, Act.put, List.setIfInBounds_toArray, List.set_cons_succ, List.set_cons_zero]
    rintro x5 -
    clear k0 k1 kl
    go_wp2_with fail
    go_ret2
    exact ⟨rfl, X1.out.trans x2⟩
end Go.Proofs.YtmbgakjkhgdjnaaGreatDoor
