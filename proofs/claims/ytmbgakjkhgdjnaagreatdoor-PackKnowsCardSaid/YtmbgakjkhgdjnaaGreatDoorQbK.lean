/-
  A clause is read (pack.GetFilter$1).
  pack.parts of clauses (written by gen_parts.py).
  pack.GetFilter; the document's Filter.
  The document's Filter.
-/
import Derived.Test.YtmbgakjkhgdjnaaGreatDoorQbJ
import Derived.Test.YtmbgakjkhgdjnaaGreatDoorQbG
import Derived.Test.YtmbgakjkhgdjnaaGreatDoorQbF
import Derived.Test.YtmbgakjkhgdjnaaGreatDoorQaD
namespace Go.Proofs.YtmbgakjkhgdjnaaGreatDoor
set_option linter.unusedSimpArgs false
set_option linter.unusedVariables false
open Go.RowKit

/-- What a clause that is read is like. -/
def clGood (x : ClauseI) : Prop := x.pre.size ≤ 90000 ∧ (0 ≤ x.lo ∧ x.lo ≤ 9223372036854775807) ∧ (0 ≤ x.hi ∧ x.hi ≤ 9223372036854775807)
theorem clB_list {x : ClauseI} (h : ClauseOk x) : (clB x).data.toList = lebL x.pre.size ++ (x.pre.data.toList ++ (lebL x.lo.toNat ++ (lebL x.hi.toNat ++ []))) := by
  unfold clB
  simp only [ByteArray.data_append, Array.toList_append, numB_list h.lo.1, numB_list h.hi.1, textB_list, List.append_assoc, List.append_nil]
theorem cl_back {s s2 s3 s4 t : ByteArray} {e2 e3 e4 : Int} {z1 z2 : Nat} (r1 : ReadT s 0 t s2 e2) (r2 : Read s2 e2 z1 s3 e3) (r3 : Read s3 e3 z2 s4 e4) (x : ClauseI) (hx : ClauseOk x) (hs : s = clB x) : (⟨t, z1, z2⟩ : ClauseI) = x ∧ endK s4 e4 = 0 := by
  have h2 := hx.lo; have h3 := hx.hi
  obtain ⟨a1, a2, a3⟩ := r1 x.pre _ rfl (by rw [hs, clB_list hx])
  obtain ⟨b1, b2, b3⟩ := r2 x.lo.toNat _ a3 (by omega) a2
  obtain ⟨c1, c2, c3⟩ := r3 x.hi.toNat [] b3 (by omega) b2
  constructor
  · obtain ⟨p, lo, hi⟩ := x
    dsimp only at *
    rw [a1, show (z1 : Int) = lo by omega, show (z2 : Int) = hi by omega]
  · unfold endK
    have : s4.size = 0 := by
      have h : s4.data.toList.length = s4.size := by rw [Array.length_toList]; rfl
      rw [← h, c2]; rfl
    rw [if_pos c3, if_pos this]
set_option maxRecDepth 100000 in
set_option maxHeartbeats 8000000 in
theorem getC1_c (w : World) (s : ByteArray) (hs : s.size ≤ 90000) : Calls Tryz.prog 152 #[.string s] w (fun en w' => ∃ (x : ClauseI) (e : Int), en = .returned (.tuple #[.agg #[.string x.pre, .int .i64 x.lo, .int .i64 x.hi], .int .i64 e]) ∧ clGood x ∧ Ext w w' ∧ ∀ x0 : ClauseI, ClauseOk x0 → s = clB x0 → x = x0 ∧ e = 0) := by
  have HO := fun W => hid (over_c W s)
  have HT := fun W q (s' : ByteArray) (e' : Int) (h' : InAt W q s' e') (hs' : s'.size ≤ 90000) => hid (t_c W q s' e' h' (by omega))
  have HN := fun W q (s' : ByteArray) (e' : Int) (h' : InAt W q s' e') (hs' : s'.size ≤ 90000) => hid (n_c W q s' e' h' (by omega))
  have HEnd := fun W q (s' : ByteArray) (e' : Int) (h' : InAt W q s' e') => hid (end_c W q s' e' h')
  have HR0 := hid (Blk.new w 130 #[.string ⟨#[]⟩, .int .i64 0, .int .i64 0])
  have HE0 := hid (Ext.alloc w (.cells #[.string ⟨#[]⟩, .int .i64 0, .int .i64 0] 130))
  go_enter Tryz.func152, Tryz.ntmps152
  go_wp2_with fail
  refine ((HO _).out).mono ?_
  rintro en w1 ⟨v, rfl, ⟨q, rfl, hq, hI⟩, x1⟩
  have HI1 := hid hI
  have HR1 := hid (HR0.out.ext x1)
  have HE1 := hid (HE0.out.trans x1)
  rw [World.size_alloc] at hq
  have NR : Hid (¬ w.heap.size = q) := by unfold Hid; omega
  have HQ := hid hq
  clear hI x1 hq HR0 HE0 HO
  have HK1 := hid (Keep.of_ext (S := fun g => g = q) HE1.out)
  clear HE1
  go_wp2_with fail
  refine ((HT _ _ _ _ HI1.out hs).out).mono ?_
  rintro en w2 ⟨t, s2, e2, rfl, ht, k2, h2, hs2, r2⟩
  have HI2 := hid h2
  have HR2 := hid (HR1.out.keep k2 NR.out)
  have HK2 := hid (HK1.out.trans k2)
  have R2 := hid r2
  have Z2 : Hid (t.size ≤ 90000) := by unfold Hid; omega
  clear k2 h2 r2 ht HI1 HR1 HK1
  go_wp2_with fail
  refine ((HN _ _ _ _ HI2.out (by omega)).out).mono ?_
  rintro en w3 ⟨z1, s3, e3, rfl, hz1, k3, h3, hs3, r3⟩
  have HI3 := hid h3
  have HR3 := hid (HR2.out.keep k3 NR.out)
  have HK3 := hid (HK2.out.trans k3)
  have R3 := hid r3
  have Z3 := hid hz1
  clear k3 h3 r3 hz1 HI2 HR2 HK2
  go_wp2_with fail
  refine ((HN _ _ _ _ HI3.out (by omega)).out).mono ?_
  rintro en w4 ⟨z2, s4, e4, rfl, hz2, k4, h4, hs4, r4⟩
  have HI4 := hid (h4.ext (Ext.alloc w4 (.cells #[.string t, .int .i64 z1, .int .i64 z2] 130)))
  have HR4 := hid ((HR3.out.keep k4 NR.out).alloc (.cells #[.string t, .int .i64 z1, .int .i64 z2] 130))
  have HU4 := hid (Blk.new w4 130 #[.string t, .int .i64 z1, .int .i64 z2])
  have HE4 : Hid (Ext w w4) := Ext.of_below ((HK3.out.trans k4).below (Nat.le_refl _) fun k hk => by have := HQ.out; omega)
  have HE5 := hid (HE4.out.alloc' (.cells #[.string t, .int .i64 z1, .int .i64 z2] 130))
  have RB : Hid (∀ x0 : ClauseI, ClauseOk x0 → s = clB x0 → (⟨t, z1, z2⟩ : ClauseI) = x0 ∧ endK s4 e4 = 0) := fun x0 a b => cl_back R2.out R3.out r4 x0 a b
  have HGd : Hid (clGood ⟨t, z1, z2⟩) := by
    have := Z2.out; have := Z3.out
    exact ⟨Z2.out, by show 0 ≤ (z1 : Int) ∧ (z1 : Int) ≤ _; omega, by show 0 ≤ (z2 : Int) ∧ (z2 : Int) ≤ _; omega⟩
  clear k4 h4 r4 hz2 HI3 HR3 HK3 R2 R3 Z2 Z3 HE4 HN HT hs hs2 hs3 hs4
  go_wp2_with fail
  generalize w4.alloc (.cells #[.string t, .int .i64 z1, .int .i64 z2] 130) = w5 at HR4 HI4 HU4 HE5 ⊢
  have u0 := HU4.out.cell (i := 0) (v := .string t) rfl
  have u1 := HU4.out.cell (i := 1) (v := .int .i64 z1) rfl
  have u2 := HU4.out.cell (i := 2) (v := .int .i64 z2) rfl
  have ul := HU4.out.lt
  refine wp_region_tail (pre := ?pre9) (tl := ?tl9) 3 ?hpre9 ?htl9 (of_decide_eq_true (by kernel_rfl)) (by kernel_rfl) (by kernel_rfl) (by kernel_rfl) (by kernel_rfl) ?_
  case hpre9 => (simp only [List.take_succ_cons, List.take_zero]; first | done | exact rfl)
  case htl9 => (simp only [List.drop_succ_cons, List.drop_zero]; first | done | exact rfl)
  repeat (first
    | (refine AWq.val rfl rfl rfl rfl (fun K hK => ?_); go_big_quiet_op; refine hK _ ?_; clear hK K)
    | (refine AWq.skip rfl rfl rfl ?_; simp only [Act.put, List.setIfInBounds_toArray, List.set_cons_succ, List.set_cons_zero])
    | (refine AWq.call rfl Tryz.func108 (by kernel_rfl) (by kernel_rfl) rfl rfl rfl ?_; apply Exists.intro; refine And.intro (fun wc hc => ?_) ?_; (· (simp only [argsOf, anyAt, ↓reduceIte, Nat.reduceEqDiff, Array.getD_eq_getD_getElem?, List.getElem?_toArray, List.getElem?_cons_succ, List.getElem?_cons_zero, Option.getD_some]; with_reducible exact (HEnd _ _ _ _ (HI4.out.ext hc)).out)); simp only [Act.put, List.setIfInBounds_toArray, List.set_cons_succ, List.set_cons_zero]))
  refine AWq.tail rfl rfl rfl (fun w6 x6 => ?_)
  simp only [closeAny, Act.put, List.setIfInBounds_toArray, List.set_cons_succ, List.set_cons_zero]
  clear u0 u1 u2 ul
  have HR6 := hid (HR4.out.ext x6)
  have HE6 := hid (HE5.out.trans x6)
  have r0 := HR6.out.cell (i := 0) (v := .string ⟨#[]⟩) rfl
  have r1 := HR6.out.cell (i := 1) (v := .int .i64 0) rfl
  have r2 := HR6.out.cell (i := 2) (v := .int .i64 0) rfl
  have q0 := HR6.out.frozen 0
  have q1 := HR6.out.frozen 1
  have q2 := HR6.out.frozen 2
  have rl := HR6.out.lt
  clear HU4 HI4 HR4 HE5 x6 HEnd
  go_wp2_with fail
  have HF : Hid (Blk _ w.heap.size 130 #[.string t, .int .i64 z1, .int .i64 z2]) := ((HR6.out.set 0 (.string t)).set 1 (.int .i64 z1)).set 2 (.int .i64 z2)
  refine bodyPost_ret (results_cell_row_tmp rfl _ _ w.heap.size 130 _ (0, 0) _ rfl HF.out Tryz.underlying130 rfl (show (Tryz.prog.info? 130).map (·.size) = some 3 by kernel_rfl)) rfl ?_
  exact ⟨⟨t, z1, z2⟩, endK s4 e4, rfl, HGd.out, ((HE6.out.setCell' (p := ⟨w.heap.size, 0, none⟩) (Nat.le_refl _) _).setCell' (p := ⟨w.heap.size, 1, none⟩) (Nat.le_refl _) _).setCell' (p := ⟨w.heap.size, 2, none⟩) (Nat.le_refl _) _, RB.out⟩
theorem cl_info : (Tryz.prog.info? 130).map (fun i => (i.zero, i.size, i.bytes)) = some (some (.agg #[.string ⟨#[]⟩, .int .i64 0, .int .i64 0]), 3, 32) := by kernel_rfl
theorem cl_elem : Elem Tryz.prog 40 130 3 32 := by
  obtain ⟨i0, h0, h1, h2, h3⟩ := info_parts cl_info
  exact ⟨Tryz.underlying40, i0, _, h0, h1, h2, h3, rfl⟩
end Go.Proofs.YtmbgakjkhgdjnaaGreatDoor
namespace Go.Proofs.YtmbgakjkhgdjnaaGreatDoor
set_option linter.unusedSimpArgs false
set_option linter.unusedVariables false
open Go.RowKit

set_option maxRecDepth 100000 in
set_option maxHeartbeats 8000000 in
theorem partsC_c (w : World) (s : ByteArray) (hs : s.size ≤ 90000) (enc : ClauseI → ByteArray) (ok : ClauseI → Prop) (hone : ∀ W t, t.size ≤ s.size → Ext w W → Calls Tryz.prog 152 #[.string t] W (fun en w' => ∃ (x : ClauseI) (e : Int), en = .returned (.tuple #[.agg #[.string x.pre, .int .i64 x.lo, .int .i64 x.hi], .int .i64 e]) ∧ clGood x ∧ Ext W w' ∧ ∀ x0, ok x0 → t = enc x0 → x = x0 ∧ e = 0)) : Calls Tryz.prog 151 #[.string s, .func (.func 152) #[] #[]] w (fun en w' => ∃ (v : Value) (b : Bool) (l : List ClauseI), en = .returned (.tuple #[v, .bool b]) ∧ RowAt ClauseI.cells 3 l v w' ∧ l.length ≤ s.size ∧ (∀ x ∈ l, clGood x) ∧ Ext w w' ∧ (∀ l0 : List ClauseI, (∀ x ∈ l0, ok x) → l0.length ≤ 90000 → s = listB enc l0 → l = l0) ∧ w'.ownsRow w.heap.size 130 3 v l.length (l.map ClauseI.cells).flatten) := by
  have HO := fun W => hid (over_c W s)
  have HN := fun W q (h' : InAt W q s 0) => hid (n_c W q s 0 h' (by omega))
  have HT := fun W q (s' : ByteArray) (e' : Int) (h' : InAt W q s' e') (hs' : s'.size ≤ s.size) => hid (t_c W q s' e' h' (by omega))
  have HEnd := fun W q (s' : ByteArray) (e' : Int) (h' : InAt W q s' e') => hid (end_c W q s' e' h')
  have HOne := hid hone
  clear hone
  go_enter Tryz.func151, Tryz.ntmps151
  go_wp2_with fail
  refine ((HO _).out).mono ?_
  rintro en w1 ⟨v, rfl, ⟨q, rfl, hq, hI⟩, x1⟩
  have HI1 := hid hI
  have HE1 := hid x1
  have HQ := hid hq
  clear hI x1 hq HO
  go_wp2_with fail
  refine ((HN _ _ HI1.out).out).mono ?_
  rintro en w2 ⟨n, s2, e2, rfl, hn, k2, h2, hs2, r2⟩
  have HI2 := hid h2
  have HE2 : Hid (Ext w w2) := Ext.of_below (((Keep.of_ext (S := fun g => g = q) HE1.out).trans k2).below (Nat.le_refl _) fun k hk => by have := HQ.out; omega)
  have HS2 := hid hs2
  have HB : Hid (∀ l0 : List ClauseI, s = listB enc l0 → l0.length ≤ 90000 → n = l0.length ∧ l0.length ≤ s.size ∧ s2.data.toList = encL (l0.map (fun x => fT (enc x))) ∧ e2 = 0) := fun l0 a0 a1 => by
    have a2 : s.data.toList = lebL l0.length ++ encL (l0.map (fun x => fT (enc x))) := by
      rw [a0]
      show encL (fN l0.length :: l0.map (fun x => fT (enc x))) = _
      rw [encL_cons]; rfl
    obtain ⟨b1, b2, b3⟩ := r2 l0.length _ rfl (by omega) a2
    refine ⟨b1, ?_, b2, b3⟩
    have c1 : s.data.toList.length = s.size := by rw [Array.length_toList]; rfl
    rw [a2, List.length_append] at c1
    have := encT_ge enc l0
    omega
  clear k2 h2 r2 hs2 HI1 HE1 HN
  by_cases hbig : (s.size : Int) < n
  · have d0 : decide ((s.size : Int) < n) = true := decide_eq_true hbig
    have d0' : decide (s.size < n) = true := decide_eq_true (by omega)
    have HD : Hid (∀ l0 : List ClauseI, (∀ x ∈ l0, ok x) → l0.length ≤ 90000 → s = listB enc l0 → [] = l0) := fun l0 _ a1 a2 => by
      obtain ⟨b1, b2, _⟩ := HB.out l0 a2 a1
      exfalso; omega
    clear hbig HB HT HEnd HOne
    go_wp2_with fail
    go_ret2
    exact ⟨_, _, [], rfl, RowAt.nil _, Nat.zero_le _, fun x hx => (by cases hx), HE2.out, HD.out, ownsRow_nil _ _ _ _⟩
  · have d0 : decide ((s.size : Int) < n) = false := decide_eq_false hbig
    have d0' : decide (s.size < n) = false := decide_eq_false (by omega)
    have hn9 : n ≤ s.size := by omega
    clear hbig hn
    go_wp2_with fail
    go_loopw [8, 20] (fun s8 s20 wr => ∃ (k : Nat) (ov : Value) (l : List ClauseI) (s' : ByteArray) (e' : Int), ov = s8 ∧ k ≤ n ∧ s20 = .int .i64 k ∧ l.length = k ∧ Hid (Ext w wr) ∧ Hid (InAt wr q s' e') ∧ Hid (s'.size ≤ s.size) ∧ Hid (∀ x ∈ l, clGood x) ∧ Hid (l.length = 0 → s8 = .slice none 0 0) ∧ Hid (wr.ownsRow (q + 1) 130 3 s8 l.length (l.map ClauseI.cells).flatten) ∧ Hid (∀ l0 : List ClauseI, (∀ x ∈ l0, ok x) → s = listB enc l0 → l0.length ≤ 90000 → n = l0.length ∧ l = l0.take k ∧ s'.data.toList = encL ((l0.drop k).map (fun x => fT (enc x))) ∧ e' = 0)) (fun _ s20 _ => n - (intOf s20).toNat)
    case atStart => exact ⟨0, _, [], s2, e2, rfl, by omega, rfl, rfl, HE2, HI2, HS2, fun x hx => (by cases hx), fun _ => rfl, ownsRow_nil _ _ _ _, fun l0 a0 a1 a2 => by
      obtain ⟨b1, b2, b3, b4⟩ := HB.out l0 a1 a2
      exact ⟨b1, rfl, b3, b4⟩⟩
    case round =>
      obtain ⟨k, s8, l, s', e', rfl, hk, rfl, hlen, hE, hI, hS, hG, hZ, hO, hB⟩ := hrel
      clear HE2 HI2 HS2 HB
      by_cases hlt : k < n
      · have d1 : decide ((k : Int) < n) = true := decide_eq_true (by omega)
        have d1' : decide (k < n) = true := decide_eq_true hlt
        have hn9' := hid hn9
        have hln := hid hlen
        have hlt' := hid hlt
        clear hlen hlt
        go_wp2_with fail
        refine ((HT _ _ _ _ hI.out hS.out).out).mono ?_
        rintro en w3 ⟨t, s3, e3, rfl, ht, k3, h3, hs3, r3⟩
        have hI3 := hid h3
        have hE3 : Hid (Ext w w3) := Ext.of_below (((Keep.of_ext (S := fun g => g = q) hE.out).trans k3).below (Nat.le_refl _) fun k hk => by have := HQ.out; omega)
        have hO3 : Hid (w3.ownsRow (q + 1) 130 3 s8 l.length (l.map ClauseI.cells).flatten) := row_keep hO.out k3 (fun g hg => by omega)
        have hS3 : Hid (s3.size ≤ s.size) := by have := hS.out; unfold Hid; omega
        have HCall := HOne.out w3 t (by have := hS.out; omega) hE3.out
        have R3 := hid r3
        clear k3 h3 hs3 r3 ht hI hE hO hS
        go_wp2_with fail
        refine HCall.mono ?_
        rintro en w4 ⟨x, e, rfl, hg, x4, hb⟩
        have hI4 := hid (hI3.out.ext (x4.trans (Ext.alloc w4 (.cells #[.string x.pre, .int .i64 x.lo, .int .i64 x.hi] 130))))
        have hE4 := hid (hE3.out.trans (x4.trans (Ext.alloc w4 (.cells #[.string x.pre, .int .i64 x.lo, .int .i64 x.hi] 130))))
        have hO4 := hid (ownsRow_ext hO3.out (x4.trans (Ext.alloc w4 (.cells #[.string x.pre, .int .i64 x.lo, .int .i64 x.hi] 130))))
        have hW4 := hid (Blk.new w4 130 #[.string x.pre, .int .i64 x.lo, .int .i64 x.hi])
        have hB4 : Hid (∀ l0 : List ClauseI, (∀ x ∈ l0, ok x) → s = listB enc l0 → l0.length ≤ 90000 → e = 0 ∧ n = l0.length ∧ l ++ [x] = l0.take (k + 1) ∧ s3.data.toList = encL ((l0.drop (k + 1)).map (fun x => fT (enc x))) ∧ e3 = 0) := fun l0 a0 a1 a2 => by
          obtain ⟨b1, b2, b3, b4⟩ := hB.out l0 a0 a1 a2
          have hlt := hlt'.out
          have hkl : k < l0.length := by omega
          rw [List.drop_eq_getElem_cons hkl, List.map_cons, encL_cons] at b3
          have b3' : s'.data.toList = lebL (enc l0[k]).size ++ ((enc l0[k]).data.toList ++ encL ((l0.drop (k + 1)).map (fun x => fT (enc x)))) := by
            rw [b3]
            show (lebL (enc l0[k]).size ++ (enc l0[k]).data.toList) ++ _ = _
            rw [List.append_assoc]
          obtain ⟨c1, c2, c3⟩ := R3.out _ _ b4 b3'
          obtain ⟨f1, f2⟩ := hb l0[k] (a0 _ (List.getElem_mem hkl)) c1
          refine ⟨f2, b1, ?_, c2, c3⟩
          rw [List.take_succ_eq_append_getElem hkl, ← b2, f1]
        have hG4 : Hid (∀ y ∈ l ++ [x], clGood y) := fun y hy => by
          rcases List.mem_append.1 hy with hy | hy
          · exact hG.out y hy
          · rw [List.mem_singleton.1 hy]; exact hg
        clear hb hB R3 hI3 hE3 hO3 HCall hg hG
        by_cases h0 : e = 0
        · have d2 : (e != 0) = false := by simp [h0]
          clear h0
          obtain ⟨v', w6, hrun6, ho6, hk6, _⟩ := app_one (P := Tryz.prog) cl_elem clause_coded hO4.out (Nat.succ_le_of_lt hI4.out.lt) x (by have := hn9'.out; have := hln.out; omega) (by omega)
          simp only [ClauseI.cells, World.size_alloc] at hrun6
          have HE6 := hid (hk6.toExt hE4.out (fun g hg => Nat.le_trans HQ.out (Nat.le_of_lt (row_block hO4.out g hg).1)))
          have HI6 : Hid (InAt w6 q s3 e3) := Blk.keep hI4.out hk6 (fun h => by have := (row_block hO4.out q h).1; omega)
          have HO6 := hid ho6
          clear ho6 hk6 hI4 hE4 hO4 x4
          go_wp2_with (at_builtin; refine wpList_app rfl (.tmp 31) (.tmp 33) _ _ rfl rfl rfl hrun6 ?_)
          go_roundw
          case rel => exact ⟨k + 1, _, l ++ [x], s3, e3, rfl, by have := hlt'.out; omega, by go_num, by rw [List.length_append, hln.out]; rfl, HE6, HI6, hS3, hG4, fun h => by simp at h, HO6, fun l0 a0 a1 a2 => (hB4.out l0 a0 a1 a2).2⟩
          case measure => simp [intOf]; have := hlt'.out; omega
        · have d2 : (e != 0) = true := by simp [h0]
          have HD : Hid (∀ l0 : List ClauseI, (∀ x ∈ l0, ok x) → l0.length ≤ 90000 → s = listB enc l0 → [] = l0) := fun l0 a0 a1 a2 => absurd (hB4.out l0 a0 a2 a1).1 h0
          clear h0 hB4 hI4 hO4 hG4
          go_wp2_with fail
          go_ret2
          exact ⟨_, _, [], rfl, RowAt.nil _, Nat.zero_le _, fun x hx => (by cases hx), hE4.out, HD.out, ownsRow_nil _ _ _ _⟩
      · obtain rfl : k = n := by omega
        have hrow := hid (RowAt.of_row clause_coded hO.out hZ.out)
        have hO8 := hid (ownsRow_mono hO.out (Nat.le_succ_of_le HQ.out))
        have HD : Hid (∀ l0 : List ClauseI, (∀ x ∈ l0, ok x) → l0.length ≤ 90000 → s = listB enc l0 → l = l0) := fun l0 a0 a1 a2 => by
          obtain ⟨b1, b2, _⟩ := hB.out l0 a0 a2 a1
          rw [b2, b1, List.take_length]
        have HL : Hid (l.length ≤ s.size) := by unfold Hid; omega
        clear hB hO hZ HT HOne hlen hlt hk hn9
        go_wp2_with fail
        refine ((HEnd _ _ _ _ hI.out).out).mono ?_
        rintro en w7 ⟨rfl, x7⟩
        have hrow7 := hid (hrow.out.ext x7)
        have hO7 := hid (ownsRow_ext hO8.out x7)
        have hE7 := hid (hE.out.trans x7)
        clear hrow hE hI x7 HEnd
        go_wp2_with fail
        go_ret2
        exact ⟨_, _, l, rfl, hrow7.out, HL.out, hG.out, hE7.out, HD.out, hO7.out⟩
end Go.Proofs.YtmbgakjkhgdjnaaGreatDoor
namespace Go.Proofs.YtmbgakjkhgdjnaaGreatDoor
set_option linter.unusedSimpArgs false
set_option linter.unusedVariables false
open Go.RowKit

set_option maxRecDepth 100000 in
set_option maxHeartbeats 4000000 in
theorem getF_c (w : World) (s : ByteArray) (m : Int) (hm : w.cell? ⟨0, 0, none⟩ = some (.int .i64 m)) (hs : s.size ≤ 90000) : Calls Tryz.prog 110 #[.string s] w (fun en w' => ∃ (v : Value) (l : List ClauseI) (z : Int), en = .returned (.tuple #[v, .int .i64 z]) ∧ Ext w w' ∧ ((z = 0 ∧ clausesB l = true ∧ listB clB l = s ∧ RowAt ClauseI.cells 3 l v w' ∧ (∀ c ∈ l, clGood c) ∧ w'.ownsRow w.heap.size 130 3 v l.length (l.map ClauseI.cells).flatten) ∨ (z = 6 ∧ v = .slice none 0 0)) ∧ (∀ f, clausesB f = true → s = listB clB f → z = 0 ∧ l = f)) := by
  have HP := fun W => hid (partsC_c W s hs clB ClauseOk (fun W' t ht _ => getC1_c W' t (by omega)))
  have HPF := fun W (hW : Ext w W) v l h hl => hid (putF_c W v l m (hW.cell hm) h hl)
  clear hm hs
  go_enter Tryz.func110, Tryz.ntmps110
  go_wp2_with fail
  refine ((HP _).out).mono ?_
  rintro en w1 ⟨v, b, l, rfl, hrow, _, hg, x1, hb, hty⟩
  have HRow := hid hrow
  have HTy := hid hty
  have X1 := hid x1
  have HG := hid hg
  have HB := hid hb
  have HS := hid (sameF_c w1 v s _ _ (fun W hW => HPF W (x1.trans hW) v l (hrow.1.ext hW) (fun c hc => (hg c hc).1)))
  clear hrow x1 hg hb HP HPF hty
  go_wp2_with fail
  refine (HS.out).mono ?_
  rintro en w2 ⟨rfl, x2⟩
  have HRow2 := hid (HRow.out.ext x2)
  have HTy2 := hid (ownsRow_ext HTy.out x2)
  have X2 := hid (X1.out.trans x2)
  clear x2 X1 HRow HS
  have HD : Hid (∀ f, clausesB f = true → s = listB clB f → (okZ (clausesB l) = 0 ∧ putB (clausesB l) (listB clB l) = s) ∧ l = f) := fun f a0 a1 => by
    obtain ⟨h64, hok⟩ := clausesB_ok a0
    obtain rfl := HB.out f hok (by omega) a1
    rw [a0]
    exact ⟨⟨rfl, a1.symm⟩, rfl⟩
  by_cases hc : okZ (clausesB l) = 0 ∧ putB (clausesB l) (listB clB l) = s
  · rw [if_pos hc, if_pos hc]
    have hcl : clausesB l = true := by
      cases h : clausesB l with
      | true => rfl
      | false => rw [h] at hc; exact absurd hc.1 (by decide)
    have he := hc.2
    rw [hcl] at he
    have HC := hid hcl
    have HE : Hid (listB clB l = s) := he
    clear hc hcl he HB
    go_wp2_with fail
    go_ret2
    exact ⟨v, l, 0, rfl, X2.out, .inl ⟨rfl, HC.out, HE.out, HRow2.out, HG.out, HTy2.out⟩, fun f a b => ⟨rfl, (HD.out f a b).2⟩⟩
  · rw [if_neg hc, if_neg hc]
    have HN := hid hc
    clear hc HB
    go_wp2_with fail
    go_ret2
    exact ⟨_, l, 6, rfl, X2.out, .inr ⟨rfl, rfl⟩, fun f a b => absurd (HD.out f a b).1 HN.out⟩
/-- The bytes of the first k clauses behind the number. -/
def partF (f : List ClauseI) (k : Nat) : ByteArray := lebB f.length ++ ⟨(encL ((f.take k).map fun x => fT (clB x))).toArray⟩
theorem partF_zero (f : List ClauseI) : partF f 0 = lebB f.length := by
  unfold partF
  apply ByteArray.ext
  rw [ByteArray.data_append]; simp [encL]
theorem partF_all (f : List ClauseI) : partF f f.length = listB clB f := by
  unfold partF listB
  rw [List.take_length, encL_cons]
  apply ByteArray.ext
  apply Array.ext'
  rw [ByteArray.data_append, Array.toList_append]
  rfl
theorem partF_next {f : List ClauseI} {k : Nat} (h : k < f.length) : partF f k ++ textB (clB f[k]) = partF f (k + 1) := by
  unfold partF
  rw [List.take_succ_eq_append_getElem h, List.map_append]
  apply ByteArray.ext
  apply Array.ext'
  simp only [ByteArray.data_append, Array.toList_append, textB_list]
  simp [encL, fT, FldI.enc]
theorem partF_size (f : List ClauseI) (B : Nat) (hB : B ≤ 100000) (hl : f.length ≤ 1000) (h : ∀ x ∈ f, (clB x).size ≤ B) (k : Nat) : (partF f k).size ≤ 9 + (9 + B) * f.length := by
  have h1 := encT_len clB B (by omega) (f.take k) (fun x hx => h x (List.mem_of_mem_take hx))
  have h2 := lebB_9 (n := f.length) (by omega)
  have h3 : (9 + B) * (f.take k).length ≤ (9 + B) * f.length := Nat.mul_le_mul_left _ (by rw [List.length_take]; omega)
  unfold partF
  rw [ByteArray.size_append]
  have h4 : (⟨(encL ((f.take k).map fun x => fT (clB x))).toArray⟩ : ByteArray).size = (encL ((f.take k).map fun x => fT (clB x))).length := rfl
  omega
theorem clB_any {c : ClauseI} (hp : c.pre.size ≤ 90000) (h1 : in64 c.lo) (h2 : in64 c.hi) : (clB c).size ≤ c.pre.size + 27 := by
  have a1 := textB_le c.pre (by omega)
  have a2 := numB_9 h1.2
  have a3 := numB_9 h2.2
  unfold clB
  rw [ByteArray.size_append, ByteArray.size_append]
  omega
end Go.Proofs.YtmbgakjkhgdjnaaGreatDoor
namespace Go.Proofs.YtmbgakjkhgdjnaaGreatDoor
set_option linter.unusedSimpArgs false
set_option linter.unusedVariables false
open Go.RowKit

set_option maxRecDepth 100000 in
set_option maxHeartbeats 8000000 in
theorem rfilter_c (w : World) (v : Value) (f : List ClauseI) (h : Sl w 3 v (f.map ClauseI.cells)) (hl : f.length ≤ 100) (hok : ∀ x ∈ f, x.pre.size ≤ 1000 ∧ in64 x.lo ∧ in64 x.hi) : Calls Tryz.prog 49 #[v] w (Ret (.string (listB clB f)) w) := by
  obtain ⟨A, c, rfl, h1, h2, h3⟩ := sl_get h
  unfold maxLen at h2
  have HN0 := fun W => hid (rnumber_c W f.length (by omega))
  rw [← partF_zero] at HN0
  have HNz := fun W z (hz : in64 z) => hid (rnumberZ_c W z hz.1 hz.2)
  have HTx := fun W s hs => hid (rtext_c W s hs)
  have HOk := hid hok
  have HSz := hid (fun k => partF_size f 1027 (by omega) (by omega) (fun x hx => by
    obtain ⟨a, b, c⟩ := hok x hx
    have := clB_any (by omega) b c
    omega) k)
  have HA := hid (partF_all f)
  have H3 := hid h3
  clear h h3 hok
  go_enter Tryz.func49, Tryz.ntmps49
  go_wp2_with fail
  refine ((HN0 _).out).mono ?_
  rintro e w1 ⟨rfl, x1⟩
  have HE1 := hid x1
  clear x1 HN0
  go_wp2_with fail
  go_loopw [3, 4] (fun s3 s4 wr => ∃ k : Nat, k ≤ f.length ∧ s3 = .string (partF f k) ∧ s4 = .int .i64 k ∧ Hid (Ext w wr)) (fun _ s4 _ => f.length - (intOf s4).toNat)
  case atStart => exact ⟨0, by omega, rfl, rfl, HE1⟩
  case round =>
    obtain ⟨k, hk, rfl, rfl, hE⟩ := hrel
    clear HE1
    by_cases hlt : k < f.length
    · have d1 : decide ((k : Int) < f.length) = true := decide_eq_true (by omega)
      have d1' : decide (k < f.length) = true := decide_eq_true hlt
      obtain ⟨b, o, rfl, lb, hcell⟩ := H3.out (by omega)
      have c0 := hE.out.cell (hcell k hlt 0 _ rfl)
      have c1 := hE.out.cell (hcell k hlt 1 _ rfl)
      have c2 := hE.out.cell (hcell k hlt 2 _ rfl)
      rw [Nat.add_zero] at c0
      have lbr := Nat.lt_of_lt_of_le lb hE.out.size
      have hx := HOk.out f[k] (List.getElem_mem hlt)
      have HM := hid (partF_next hlt)
      have hS := HSz.out k
      clear hcell H3 HOk HSz HA lb
      generalize f[k] = x at c0 c1 c2 hx HM
      have HT1 := fun W => HTx W x.pre (by omega)
      have HN1 := fun W => HNz W x.lo hx.2.1
      have HN2 := fun W => HNz W x.hi hx.2.2
      have s1 := textB_le x.pre (by omega)
      have s2 := numB_9 hx.2.1.2
      have s3 := numB_9 hx.2.2.2
      have hx1 := hx.1
      have s0 := clB_any (by omega) hx.2.1 hx.2.2
      have s4 := textB_le (clB x) (by omega)
      have HT2 := fun W => HTx W (clB x) (by omega)
      have hS2 : (partF f k).size ≤ 200000 := by
        have : (9 + 1027) * f.length ≤ (9 + 1027) * 100 := Nat.mul_le_mul_left _ hl
        omega
      clear hS hx HTx HNz
      unfold clB at HT2 HM s4
      generalize textB x.pre = e1 at HT1 HT2 HM s1 s4
      generalize numB x.lo = e2 at HN1 HT2 HM s2 s4
      generalize numB x.hi = e3 at HN2 HT2 HM s3 s4
      generalize textB (e1 ++ e2 ++ e3) = e4 at HT2 HM s4
      generalize hS1 : partF f (k + 1) = S1 at HM
      have HS1 := hid hS1
      clear hS1
      generalize partF f k = S at HM hS2 ⊢
      have q1 : (e1 ++ e2).size ≤ 1018 := by rw [ByteArray.size_append]; omega
      have q2 : (e1 ++ e2 ++ e3).size ≤ 1027 := by rw [ByteArray.size_append]; omega
      have q4 : e4.size ≤ 1100 := by rw [ByteArray.size_append, ByteArray.size_append] at s4; omega
      clear s0 s4
      go_wp2_with fail
      refine wp_region_any_order (by kernel_rfl) (by kernel_rfl) (by kernel_rfl) ?_
      repeat (first
        | (refine AWq.val rfl rfl rfl rfl (fun K hK => ?_); go_big_quiet_op; refine hK _ ?_; clear hK K)
        | (refine AWq.skip rfl rfl rfl ?_; simp only [Act.put, List.setIfInBounds_toArray, List.set_cons_succ, List.set_cons_zero])
        | (refine AWq.call rfl Tryz.func48 (by kernel_rfl) (by kernel_rfl) rfl rfl rfl ?_; apply Exists.intro; refine And.intro (fun wc hc => ?_) ?_; (· (simp only [argsOf, anyAt, ↓reduceIte, Nat.reduceEqDiff, Array.getD_eq_getD_getElem?, List.getElem?_toArray, List.getElem?_cons_succ, List.getElem?_cons_zero, Option.getD_some]; with_reducible exact (HT1 _).out)); simp only [Act.put, List.setIfInBounds_toArray, List.set_cons_succ, List.set_cons_zero])
        | (refine AWq.call rfl Tryz.func48 (by kernel_rfl) (by kernel_rfl) rfl rfl rfl ?_; apply Exists.intro; refine And.intro (fun wc hc => ?_) ?_; (· (simp only [argsOf, anyAt, ↓reduceIte, Nat.reduceEqDiff, Array.getD_eq_getD_getElem?, List.getElem?_toArray, List.getElem?_cons_succ, List.getElem?_cons_zero, Option.getD_some]; with_reducible exact (HT2 _).out)); simp only [Act.put, List.setIfInBounds_toArray, List.set_cons_succ, List.set_cons_zero])
        | (refine AWq.call rfl Tryz.func47 (by kernel_rfl) (by kernel_rfl) rfl rfl rfl ?_; apply Exists.intro; refine And.intro (fun wc hc => ?_) ?_; (· (simp only [argsOf, anyAt, ↓reduceIte, Nat.reduceEqDiff, Array.getD_eq_getD_getElem?, List.getElem?_toArray, List.getElem?_cons_succ, List.getElem?_cons_zero, Option.getD_some]; with_reducible exact (HN1 _).out)); simp only [Act.put, List.setIfInBounds_toArray, List.set_cons_succ, List.set_cons_zero])
        | (refine AWq.call rfl Tryz.func47 (by kernel_rfl) (by kernel_rfl) rfl rfl rfl ?_; apply Exists.intro; refine And.intro (fun wc hc => ?_) ?_; (· (simp only [argsOf, anyAt, ↓reduceIte, Nat.reduceEqDiff, Array.getD_eq_getD_getElem?, List.getElem?_toArray, List.getElem?_cons_succ, List.getElem?_cons_zero, Option.getD_some]; with_reducible exact (HN2 _).out)); simp only [Act.put, List.setIfInBounds_toArray, List.set_cons_succ, List.set_cons_zero]))
      refine AWq.done rfl rfl rfl (fun w2 x2 => ?_)
      simp only [closeAny, Act.put, List.setIfInBounds_toArray, List.set_cons_succ, List.set_cons_zero]
      rw [HM.out]
      clear c0 c1 c2 q1 q2 q4 hS2 HT1 HN1 HN2 HT2 HM
      go_wp2_with fail
      go_roundw
      case rel => exact ⟨k + 1, by omega, by rw [HS1.out], by go_num, hE.out.trans x2⟩
      case measure => simp [intOf]; omega
    · obtain rfl : k = f.length := by omega
      clear hlt hk HTx HNz HOk HSz H3
      go_wp2_with fail
      go_ret
      exact ⟨by rw [← HA.out]; rfl, hE.out⟩
end Go.Proofs.YtmbgakjkhgdjnaaGreatDoor
