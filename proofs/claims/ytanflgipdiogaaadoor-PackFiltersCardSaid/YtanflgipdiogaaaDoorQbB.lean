/-
  A clause is read (pack.GetFilter$1).
  pack.parts of clauses (written by gen_parts.py).
-/
import Derived.Test.YtanflgipdiogaaaDoorPfBk
import Derived.Test.YtanflgipdiogaaaDoorVcKk
import Derived.Test.YtanflgipdiogaaaDoorVcIk
namespace Go.Proofs.YtanflgipdiogaaaDoor
set_option linter.unusedSimpArgs false
set_option linter.unusedVariables false
open Go.RowKit

/-- What a clause that is read is like. -/
def clGood (x : ClauseI) : Prop := x.pre.size ≤ 90000 ∧ (0 ≤ x.lo ∧ x.lo ≤ 9223372036854775807) ∧ (0 ≤ x.hi ∧ x.hi ≤ 9223372036854775807)
theorem clB_list {x : ClauseI} (h : ClauseOk x) : (clB x).data.toList = lebL x.pre.size ++ (x.pre.data.toList ++ (lebL x.lo.toNat ++ (lebL x.hi.toNat ++ []))) := by
  unfold clB
  simp only [ByteArray.data_append, Array.toList_append, numB_list h.lo.1, numB_list h.hi.1, textB_list, List.append_assoc, List.append_nil]
theorem cl_back {s s2 s3 s4 t : ByteArray} {e2 e3 e4 : Int} {z1 z2 : Nat} (r1 : ReadT s 0 t s2 e2) (r2 : Read s2 e2 z1 s3 e3) (r3 : Read s3 e3 z2 s4 e4) (x : ClauseI) (hx : ClauseOk x) (hs : s = clB x) : (⟨t, z1, z2⟩ : ClauseI) = x ∧ endK s4 e4 = 0 := by
  have h2 := hx.lo; have h3 := hx.hi
  obtain ⟨a1, a2, a3⟩ := r1 x.pre _ rfl (by rw [hs, clB_list hx])
  obtain ⟨b1, b2, b3⟩ := r2 x.lo.toNat _ a3 (by omega) a2
  obtain ⟨c1, c2, c3⟩ := r3 x.hi.toNat [] b3 (by omega) b2
  constructor
  · obtain ⟨p, lo, hi⟩ := x
    dsimp only at *
    rw [a1, show (z1 : Int) = lo by omega, show (z2 : Int) = hi by omega]
  · unfold endK
    have : s4.size = 0 := by
      have h : s4.data.toList.length = s4.size := by rw [Array.length_toList]; rfl
      rw [← h, c2]; rfl
    rw [if_pos c3, if_pos this]
set_option maxRecDepth 100000 in
set_option maxHeartbeats 8000000 in
theorem getC1_c (w : World) (s : ByteArray) (hs : s.size ≤ 90000) : Calls Tryd.prog 55 #[.string s] w (fun en w' => ∃ (x : ClauseI) (e : Int), en = .returned (.tuple #[.agg #[.string x.pre, .int .i64 x.lo, .int .i64 x.hi], .int .i64 e]) ∧ clGood x ∧ Ext w w' ∧ ∀ x0 : ClauseI, ClauseOk x0 → s = clB x0 → x = x0 ∧ e = 0) := by
  have HO := fun W => hid (over_c W s)
  have HT := fun W q (s' : ByteArray) (e' : Int) (h' : InAt W q s' e') (hs' : s'.size ≤ 90000) => hid (t_c W q s' e' h' (by omega))
  have HN := fun W q (s' : ByteArray) (e' : Int) (h' : InAt W q s' e') (hs' : s'.size ≤ 90000) => hid (n_c W q s' e' h' (by omega))
  have HEnd := fun W q (s' : ByteArray) (e' : Int) (h' : InAt W q s' e') => hid (end_c W q s' e' h')
  have HR0 := hid (Blk.new w 72 #[.string ⟨#[]⟩, .int .i64 0, .int .i64 0])
  have HE0 := hid (Ext.alloc w (.cells #[.string ⟨#[]⟩, .int .i64 0, .int .i64 0] 72))
  go_enter Tryd.func55, Tryd.ntmps55
  go_wp2_with fail
  refine ((HO _).out).mono ?_
  rintro en w1 ⟨v, rfl, ⟨q, rfl, hq, hI⟩, x1⟩
  have HI1 := hid hI
  have HR1 := hid (HR0.out.ext x1)
  have HE1 := hid (HE0.out.trans x1)
  rw [World.size_alloc] at hq
  have NR : Hid (¬ w.heap.size = q) := by unfold Hid; omega
  have HQ := hid hq
  clear hI x1 hq HR0 HE0 HO
  have HK1 := hid (Keep.of_ext (S := fun g => g = q) HE1.out)
  clear HE1
  go_wp2_with fail
  refine ((HT _ _ _ _ HI1.out hs).out).mono ?_
  rintro en w2 ⟨t, s2, e2, rfl, ht, k2, h2, hs2, r2⟩
  have HI2 := hid h2
  have HR2 := hid (HR1.out.keep k2 NR.out)
  have HK2 := hid (HK1.out.trans k2)
  have R2 := hid r2
  have Z2 : Hid (t.size ≤ 90000) := by unfold Hid; omega
  clear k2 h2 r2 ht HI1 HR1 HK1
  go_wp2_with fail
  refine ((HN _ _ _ _ HI2.out (by omega)).out).mono ?_
  rintro en w3 ⟨z1, s3, e3, rfl, hz1, k3, h3, hs3, r3⟩
  have HI3 := hid h3
  have HR3 := hid (HR2.out.keep k3 NR.out)
  have HK3 := hid (HK2.out.trans k3)
  have R3 := hid r3
  have Z3 := hid hz1
  clear k3 h3 r3 hz1 HI2 HR2 HK2
  go_wp2_with fail
  refine ((HN _ _ _ _ HI3.out (by omega)).out).mono ?_
  rintro en w4 ⟨z2, s4, e4, rfl, hz2, k4, h4, hs4, r4⟩
  have HI4 := hid (h4.ext (Ext.alloc w4 (.cells #[.string t, .int .i64 z1, .int .i64 z2] 72)))
  have HR4 := hid ((HR3.out.keep k4 NR.out).alloc (.cells #[.string t, .int .i64 z1, .int .i64 z2] 72))
  have HU4 := hid (Blk.new w4 72 #[.string t, .int .i64 z1, .int .i64 z2])
  have HE4 : Hid (Ext w w4) := Ext.of_below ((HK3.out.trans k4).below (Nat.le_refl _) fun k hk => by have := HQ.out; omega)
  have HE5 := hid (HE4.out.alloc' (.cells #[.string t, .int .i64 z1, .int .i64 z2] 72))
  have RB : Hid (∀ x0 : ClauseI, ClauseOk x0 → s = clB x0 → (⟨t, z1, z2⟩ : ClauseI) = x0 ∧ endK s4 e4 = 0) := fun x0 a b => cl_back R2.out R3.out r4 x0 a b
  have HGd : Hid (clGood ⟨t, z1, z2⟩) := by
    have := Z2.out; have := Z3.out
    exact ⟨Z2.out, by show 0 ≤ (z1 : Int) ∧ (z1 : Int) ≤ _; omega, by show 0 ≤ (z2 : Int) ∧ (z2 : Int) ≤ _; omega⟩
  clear k4 h4 r4 hz2 HI3 HR3 HK3 R2 R3 Z2 Z3 HE4 HN HT hs hs2 hs3 hs4
  go_wp2_with fail
  generalize w4.alloc (.cells #[.string t, .int .i64 z1, .int .i64 z2] 72) = w5 at HR4 HI4 HU4 HE5 ⊢
  have u0 := HU4.out.cell (i := 0) (v := .string t) rfl
  have u1 := HU4.out.cell (i := 1) (v := .int .i64 z1) rfl
  have u2 := HU4.out.cell (i := 2) (v := .int .i64 z2) rfl
  have ul := HU4.out.lt
  refine wp_region_tail (pre := ?pre1) (tl := ?tl1) 3 ?hpre1 ?htl1 (of_decide_eq_true (by kernel_rfl)) (by kernel_rfl) (by kernel_rfl) (by kernel_rfl) (by kernel_rfl) ?_
  case hpre1 => (simp only [List.take_succ_cons, List.take_zero]; first | done | exact rfl)
  case htl1 => (simp only [List.drop_succ_cons, List.drop_zero]; first | done | exact rfl)
  repeat (first
    | (refine AWq.val rfl rfl rfl rfl (fun K hK => ?_); go_big_quiet_op; refine hK _ ?_; clear hK K)
    | (refine AWq.skip rfl rfl rfl ?_; simp only [Act.put, List.setIfInBounds_toArray, List.set_cons_succ, List.set_cons_zero])
    | (refine AWq.call rfl Tryd.func59 (by kernel_rfl) (by kernel_rfl) rfl rfl rfl ?_; apply Exists.intro; refine And.intro (fun wc hc => ?_) ?_; (· (simp only [argsOf, anyAt, ↓reduceIte, Nat.reduceEqDiff, Array.getD_eq_getD_getElem?, List.getElem?_toArray, List.getElem?_cons_succ, List.getElem?_cons_zero, Option.getD_some]; with_reducible exact (HEnd _ _ _ _ (HI4.out.ext hc)).out)); simp only [Act.put, List.setIfInBounds_toArray, List.set_cons_succ, List.set_cons_zero]))
  refine AWq.tail rfl rfl rfl (fun w6 x6 => ?_)
  simp only [closeAny, Act.put, List.setIfInBounds_toArray, List.set_cons_succ, List.set_cons_zero]
  clear u0 u1 u2 ul
  have HR6 := hid (HR4.out.ext x6)
  have HE6 := hid (HE5.out.trans x6)
  have r0 := HR6.out.cell (i := 0) (v := .string ⟨#[]⟩) rfl
  have r1 := HR6.out.cell (i := 1) (v := .int .i64 0) rfl
  have r2 := HR6.out.cell (i := 2) (v := .int .i64 0) rfl
  have q0 := HR6.out.frozen 0
  have q1 := HR6.out.frozen 1
  have q2 := HR6.out.frozen 2
  have rl := HR6.out.lt
  clear HU4 HI4 HR4 HE5 x6 HEnd
  go_wp2_with fail
  have HF : Hid (Blk _ w.heap.size 72 #[.string t, .int .i64 z1, .int .i64 z2]) := ((HR6.out.set 0 (.string t)).set 1 (.int .i64 z1)).set 2 (.int .i64 z2)
  refine bodyPost_ret (results_cell_row_tmp rfl _ _ w.heap.size 72 _ (0, 0) _ rfl HF.out Tryd.underlying72 rfl (show (Tryd.prog.info? 72).map (·.size) = some 3 by kernel_rfl)) rfl ?_
  exact ⟨⟨t, z1, z2⟩, endK s4 e4, rfl, HGd.out, ((HE6.out.setCell' (p := ⟨w.heap.size, 0, none⟩) (Nat.le_refl _) _).setCell' (p := ⟨w.heap.size, 1, none⟩) (Nat.le_refl _) _).setCell' (p := ⟨w.heap.size, 2, none⟩) (Nat.le_refl _) _, RB.out⟩
theorem cl_info : (Tryd.prog.info? 72).map (fun i => (i.zero, i.size, i.bytes)) = some (some (.agg #[.string ⟨#[]⟩, .int .i64 0, .int .i64 0]), 3, 32) := by kernel_rfl
theorem cl_elem : Elem Tryd.prog 52 72 3 32 := by
  obtain ⟨i0, h0, h1, h2, h3⟩ := info_parts cl_info
  exact ⟨Tryd.underlying52, i0, _, h0, h1, h2, h3, rfl⟩
end Go.Proofs.YtanflgipdiogaaaDoor
namespace Go.Proofs.YtanflgipdiogaaaDoor
set_option linter.unusedSimpArgs false
set_option linter.unusedVariables false
open Go.RowKit

set_option maxRecDepth 100000 in
set_option maxHeartbeats 8000000 in
theorem partsC_c (w : World) (s : ByteArray) (hs : s.size ≤ 90000) (enc : ClauseI → ByteArray) (ok : ClauseI → Prop) (hone : ∀ W t, t.size ≤ s.size → Ext w W → Calls Tryd.prog 55 #[.string t] W (fun en w' => ∃ (x : ClauseI) (e : Int), en = .returned (.tuple #[.agg #[.string x.pre, .int .i64 x.lo, .int .i64 x.hi], .int .i64 e]) ∧ clGood x ∧ Ext W w' ∧ ∀ x0, ok x0 → t = enc x0 → x = x0 ∧ e = 0)) : Calls Tryd.prog 54 #[.string s, .func (.func 55) #[] #[]] w (fun en w' => ∃ (v : Value) (b : Bool) (l : List ClauseI), en = .returned (.tuple #[v, .bool b]) ∧ RowAt ClauseI.cells 3 l v w' ∧ l.length ≤ s.size ∧ (∀ x ∈ l, clGood x) ∧ Ext w w' ∧ ∀ l0 : List ClauseI, (∀ x ∈ l0, ok x) → l0.length ≤ 90000 → s = listB enc l0 → l = l0) := by
  have HO := fun W => hid (over_c W s)
  have HN := fun W q (h' : InAt W q s 0) => hid (n_c W q s 0 h' (by omega))
  have HT := fun W q (s' : ByteArray) (e' : Int) (h' : InAt W q s' e') (hs' : s'.size ≤ s.size) => hid (t_c W q s' e' h' (by omega))
  have HEnd := fun W q (s' : ByteArray) (e' : Int) (h' : InAt W q s' e') => hid (end_c W q s' e' h')
  have HOne := hid hone
  clear hone
  go_enter Tryd.func54, Tryd.ntmps54
  go_wp2_with fail
  refine ((HO _).out).mono ?_
  rintro en w1 ⟨v, rfl, ⟨q, rfl, hq, hI⟩, x1⟩
  have HI1 := hid hI
  have HE1 := hid x1
  have HQ := hid hq
  clear hI x1 hq HO
  go_wp2_with fail
  refine ((HN _ _ HI1.out).out).mono ?_
  rintro en w2 ⟨n, s2, e2, rfl, hn, k2, h2, hs2, r2⟩
  have HI2 := hid h2
  have HE2 : Hid (Ext w w2) := Ext.of_below (((Keep.of_ext (S := fun g => g = q) HE1.out).trans k2).below (Nat.le_refl _) fun k hk => by have := HQ.out; omega)
  have HS2 := hid hs2
  have HB : Hid (∀ l0 : List ClauseI, s = listB enc l0 → l0.length ≤ 90000 → n = l0.length ∧ l0.length ≤ s.size ∧ s2.data.toList = encL (l0.map (fun x => fT (enc x))) ∧ e2 = 0) := fun l0 a0 a1 => by
    have a2 : s.data.toList = lebL l0.length ++ encL (l0.map (fun x => fT (enc x))) := by
      rw [a0]
      show encL (fN l0.length :: l0.map (fun x => fT (enc x))) = _
      rw [encL_cons]; rfl
    obtain ⟨b1, b2, b3⟩ := r2 l0.length _ rfl (by omega) a2
    refine ⟨b1, ?_, b2, b3⟩
    have c1 : s.data.toList.length = s.size := by rw [Array.length_toList]; rfl
    rw [a2, List.length_append] at c1
    have := encT_ge enc l0
    omega
  clear k2 h2 r2 hs2 HI1 HE1 HN
  by_cases hbig : (s.size : Int) < n
  · have d0 : decide ((s.size : Int) < n) = true := decide_eq_true hbig
    have d0' : decide (s.size < n) = true := decide_eq_true (by omega)
    have HD : Hid (∀ l0 : List ClauseI, (∀ x ∈ l0, ok x) → l0.length ≤ 90000 → s = listB enc l0 → [] = l0) := fun l0 _ a1 a2 => by
      obtain ⟨b1, b2, _⟩ := HB.out l0 a2 a1
      exfalso; omega
    clear hbig HB HT HEnd HOne
    go_wp2_with fail
    go_ret2
    exact ⟨_, _, [], rfl, RowAt.nil _, Nat.zero_le _, fun x hx => (by cases hx), HE2.out, HD.out⟩
  · have d0 : decide ((s.size : Int) < n) = false := decide_eq_false hbig
    have d0' : decide (s.size < n) = false := decide_eq_false (by omega)
    have hn9 : n ≤ s.size := by omega
    clear hbig hn
    go_wp2_with fail
    go_loopw [8, 20] (fun s8 s20 wr => ∃ (k : Nat) (ov : Value) (l : List ClauseI) (s' : ByteArray) (e' : Int), ov = s8 ∧ k ≤ n ∧ s20 = .int .i64 k ∧ l.length = k ∧ Hid (Ext w wr) ∧ Hid (InAt wr q s' e') ∧ Hid (s'.size ≤ s.size) ∧ Hid (∀ x ∈ l, clGood x) ∧ Hid (l.length = 0 → s8 = .slice none 0 0) ∧ Hid (wr.ownsRow (q + 1) 72 3 s8 l.length (l.map ClauseI.cells).flatten) ∧ Hid (∀ l0 : List ClauseI, (∀ x ∈ l0, ok x) → s = listB enc l0 → l0.length ≤ 90000 → n = l0.length ∧ l = l0.take k ∧ s'.data.toList = encL ((l0.drop k).map (fun x => fT (enc x))) ∧ e' = 0)) (fun _ s20 _ => n - (intOf s20).toNat)
    case atStart => exact ⟨0, _, [], s2, e2, rfl, by omega, rfl, rfl, HE2, HI2, HS2, fun x hx => (by cases hx), fun _ => rfl, ownsRow_nil _ _ _ _, fun l0 a0 a1 a2 => by
      obtain ⟨b1, b2, b3, b4⟩ := HB.out l0 a1 a2
      exact ⟨b1, rfl, b3, b4⟩⟩
    case round =>
      obtain ⟨k, s8, l, s', e', rfl, hk, rfl, hlen, hE, hI, hS, hG, hZ, hO, hB⟩ := hrel
      clear HE2 HI2 HS2 HB
      by_cases hlt : k < n
      · have d1 : decide ((k : Int) < n) = true := decide_eq_true (by omega)
        have d1' : decide (k < n) = true := decide_eq_true hlt
        have hn9' := hid hn9
        have hln := hid hlen
        have hlt' := hid hlt
        clear hlen hlt
        go_wp2_with fail
        refine ((HT _ _ _ _ hI.out hS.out).out).mono ?_
        rintro en w3 ⟨t, s3, e3, rfl, ht, k3, h3, hs3, r3⟩
        have hI3 := hid h3
        have hE3 : Hid (Ext w w3) := Ext.of_below (((Keep.of_ext (S := fun g => g = q) hE.out).trans k3).below (Nat.le_refl _) fun k hk => by have := HQ.out; omega)
        have hO3 : Hid (w3.ownsRow (q + 1) 72 3 s8 l.length (l.map ClauseI.cells).flatten) := row_keep hO.out k3 (fun g hg => by omega)
        have hS3 : Hid (s3.size ≤ s.size) := by have := hS.out; unfold Hid; omega
        have HCall := HOne.out w3 t (by have := hS.out; omega) hE3.out
        have R3 := hid r3
        clear k3 h3 hs3 r3 ht hI hE hO hS
        go_wp2_with fail
        refine HCall.mono ?_
        rintro en w4 ⟨x, e, rfl, hg, x4, hb⟩
        have hI4 := hid (hI3.out.ext (x4.trans (Ext.alloc w4 (.cells #[.string x.pre, .int .i64 x.lo, .int .i64 x.hi] 72))))
        have hE4 := hid (hE3.out.trans (x4.trans (Ext.alloc w4 (.cells #[.string x.pre, .int .i64 x.lo, .int .i64 x.hi] 72))))
        have hO4 := hid (ownsRow_ext hO3.out (x4.trans (Ext.alloc w4 (.cells #[.string x.pre, .int .i64 x.lo, .int .i64 x.hi] 72))))
        have hW4 := hid (Blk.new w4 72 #[.string x.pre, .int .i64 x.lo, .int .i64 x.hi])
        have hB4 : Hid (∀ l0 : List ClauseI, (∀ x ∈ l0, ok x) → s = listB enc l0 → l0.length ≤ 90000 → e = 0 ∧ n = l0.length ∧ l ++ [x] = l0.take (k + 1) ∧ s3.data.toList = encL ((l0.drop (k + 1)).map (fun x => fT (enc x))) ∧ e3 = 0) := fun l0 a0 a1 a2 => by
          obtain ⟨b1, b2, b3, b4⟩ := hB.out l0 a0 a1 a2
          have hlt := hlt'.out
          have hkl : k < l0.length := by omega
          rw [List.drop_eq_getElem_cons hkl, List.map_cons, encL_cons] at b3
          have b3' : s'.data.toList = lebL (enc l0[k]).size ++ ((enc l0[k]).data.toList ++ encL ((l0.drop (k + 1)).map (fun x => fT (enc x)))) := by
            rw [b3]
            show (lebL (enc l0[k]).size ++ (enc l0[k]).data.toList) ++ _ = _
            rw [List.append_assoc]
          obtain ⟨c1, c2, c3⟩ := R3.out _ _ b4 b3'
          obtain ⟨f1, f2⟩ := hb l0[k] (a0 _ (List.getElem_mem hkl)) c1
          refine ⟨f2, b1, ?_, c2, c3⟩
          rw [List.take_succ_eq_append_getElem hkl, ← b2, f1]
        have hG4 : Hid (∀ y ∈ l ++ [x], clGood y) := fun y hy => by
          rcases List.mem_append.1 hy with hy | hy
          · exact hG.out y hy
          · rw [List.mem_singleton.1 hy]; exact hg
        clear hb hB R3 hI3 hE3 hO3 HCall hg hG
        by_cases h0 : e = 0
        · have d2 : (e != 0) = false := by simp [h0]
          clear h0
          obtain ⟨v', w6, hrun6, ho6, hk6, _⟩ := app_one (P := Tryd.prog) cl_elem clause_coded hO4.out (Nat.succ_le_of_lt hI4.out.lt) x (by have := hn9'.out; have := hln.out; omega) (by omega)
          simp only [ClauseI.cells, World.size_alloc] at hrun6
          have HE6 := hid (hk6.toExt hE4.out (fun g hg => Nat.le_trans HQ.out (Nat.le_of_lt (row_block hO4.out g hg).1)))
          have HI6 : Hid (InAt w6 q s3 e3) := Blk.keep hI4.out hk6 (fun h => by have := (row_block hO4.out q h).1; omega)
          have HO6 := hid ho6
          clear ho6 hk6 hI4 hE4 hO4 x4
          go_wp2_with (at_builtin; refine wpList_app rfl (.tmp 31) (.tmp 33) _ _ rfl rfl rfl hrun6 ?_)
          go_roundw
          case rel => exact ⟨k + 1, _, l ++ [x], s3, e3, rfl, by have := hlt'.out; omega, by go_num, by rw [List.length_append, hln.out]; rfl, HE6, HI6, hS3, hG4, fun h => by simp at h, HO6, fun l0 a0 a1 a2 => (hB4.out l0 a0 a1 a2).2⟩
          case measure => simp [intOf]; have := hlt'.out; omega
        · have d2 : (e != 0) = true := by simp [h0]
          have HD : Hid (∀ l0 : List ClauseI, (∀ x ∈ l0, ok x) → l0.length ≤ 90000 → s = listB enc l0 → [] = l0) := fun l0 a0 a1 a2 => absurd (hB4.out l0 a0 a2 a1).1 h0
          clear h0 hB4 hI4 hO4 hG4
          go_wp2_with fail
          go_ret2
          exact ⟨_, _, [], rfl, RowAt.nil _, Nat.zero_le _, fun x hx => (by cases hx), hE4.out, HD.out⟩
      · obtain rfl : k = n := by omega
        have hrow := hid (RowAt.of_row clause_coded hO.out hZ.out)
        have HD : Hid (∀ l0 : List ClauseI, (∀ x ∈ l0, ok x) → l0.length ≤ 90000 → s = listB enc l0 → l = l0) := fun l0 a0 a1 a2 => by
          obtain ⟨b1, b2, _⟩ := hB.out l0 a0 a2 a1
          rw [b2, b1, List.take_length]
        have HL : Hid (l.length ≤ s.size) := by unfold Hid; omega
        clear hB hO hZ HT HOne hlen hlt hk hn9
        go_wp2_with fail
        refine ((HEnd _ _ _ _ hI.out).out).mono ?_
        rintro en w7 ⟨rfl, x7⟩
        have hrow7 := hid (hrow.out.ext x7)
        have hE7 := hid (hE.out.trans x7)
        clear hrow hE hI x7 HEnd
        go_wp2_with fail
        go_ret2
        exact ⟨_, _, l, rfl, hrow7.out, HL.out, hG.out, hE7.out, HD.out⟩
end Go.Proofs.YtanflgipdiogaaaDoor
