/-
  The law TreeMay: its walk where the tree and the replica are there (written by gen_may.py).
-/
import Derived.Test.YtjnjamhohnnefaaGreatDoorTrZk
namespace Go.Proofs.YtjnjamhohnnefaaGreatDoor
set_option linter.unusedSimpArgs false
set_option linter.unusedVariables false
open Go.RowKit Go.Sort
set_option maxRecDepth 100000 in
set_option maxHeartbeats 16000000 in
theorem may_in (w : World) (m : Int) (hm : w.cell? ⟨0, 0, none⟩ = some (.int .i64 m)) (up : List Int) (Fl : List (List ClauseI)) (A AF Av : Option Addr) (c cF cv : Nat) (r : Int) (f : List ClauseI) (x : FileI) (hu : Sl w 1 (.slice A up.length c) (Ints up)) (hF : FsAt w AF cF Fl) (hf : Sl w 3 (.slice Av f.length cv) (f.map ClauseI.cells)) (hx : x.p.size ≤ maxLen) (hlt : lightT up Fl = true) (hlf : lightF f = true) (e0 : checkT up Fl = 0) (hin : inT up.length r = true) : Calls Tryz.prog 4 #[.agg #[.slice A up.length c, .slice AF Fl.length cF, .int .i64 r, .slice Av f.length cv, .string x.p, .int .i64 x.size, .bool x.dead]] w (Ret (.bool true) w) := by
  have HAw := fun W (hW : Ext w W) => hid (awake28_c W m (hW.cell hm))
  have HLt := fun W (hW : Ext w W) => hid (light28_c W up Fl A AF c cF (hu.ext hW) (hF.ext hW))
  have HLf := fun W (hW : Ext w W) => hid (lightF_c W (.slice Av f.length cv) f (hf.ext hW))
  have ht : TreeAt w up Fl A AF c cF := lightT_tree hlt m hm hu hF
  have hlf2 := lightF_iff.1 hlf
  rw [hlt] at HLt
  rw [hlf] at HLf
  have HMy := fun W (hW : Ext w W) => hid (may28_c W up Fl A AF c cF r (.slice Av f.length cv) f (ht.ext hW) (hf.ext hW) ⟨hlf2.1, by omega⟩)
  have HCk := fun W (hW : Ext w W) => hid (rcheck28_c W up Fl A AF c cF (ht.u.ext hW) ht.l (ht.f.ext hW) ht.L)
  have hl := ht.l
  obtain ⟨h1, h2⟩ := ht.cap
  unfold maxLen at h2
  rw [mayT_in e0 hin] at HMy
  obtain ⟨i1, i2⟩ := inT_iff.1 hin
  obtain ⟨k, hk, hrk⟩ : ∃ k : Nat, k < up.length ∧ r - 1 = (k : Int) := ⟨(r - 1).toNat, by omega, by omega⟩
  rw [show (r - 1).toNat = k by omega] at HMy
  have hsh := (check_zero e0).2.1
  have hlen : Fl.length = up.length := (shape_in hsh).2
  have d1 : decide (r < 1) = false := decide_eq_false (by omega)
  have d2 : decide ((up.length : Int) < r) = false := decide_eq_false (by omega)
  obtain ⟨S, hS, hA⟩ := ht.f.split
  have hSn : S.length = Fl.length := hA.1
  have hp : 0 < Fl.length := by omega
  have hm9 : Fl.length ≤ 1000 := by omega
  have hs2 : FilsAt w (S.set k ⟨Av, f.length, cv⟩) (Fl.set k f) := hA.set k ⟨Av, f.length, cv⟩ f hf
  have HL' : ∀ y ∈ Fl.set k f, LightF y ∧ y.length ≤ 5000 := fun y hy => by
    rcases List.mem_or_eq_of_mem_set hy with hy | rfl
    · exact ht.L y hy
    · exact ⟨hlf2.1, by omega⟩
  have HC2 := fun W (hW : Ext w W) (g1 c1 : Nat) (hF : FsAt W (some ⟨g1, 0, none⟩) c1 (Fl.set k f)) => hid (rcheck28_c W up (Fl.set k f) A (some ⟨g1, 0, none⟩) c c1 (ht.u.ext hW) ht.l hF HL')
  simp only [List.length_set] at HC2
  have HFs := fun W (hW : Ext w W) (B g1 c1 : Nat) (h : RowF B (S.set k ⟨Av, f.length, cv⟩) g1 c1 W) => hid (fsAt_own h (hs2.ext hW))
  have HEq := fun W (hW : Ext w W) i (hi : i < S.length) => hid (requal_c W (.slice S[i].A S[i].n S[i].c) (.slice S[i].A S[i].n S[i].c) (Fl[i]'(by omega)) (Fl[i]'(by omega)) ((hA.ext hW).2 i hi (by omega)) ((hA.ext hW).2 i hi (by omega)))
  simp only [decide_true] at HEq
  have HUd := fun W (hW : Ext w W) (i : Nat) (hi : i < up.length) => hid (runder_c W up A c ((i : Int) + 1) r (ht.u.ext hW) hl i1 (shape_climb hsh (by omega) (by omega)))
  have HM1 := fun W (hW : Ext w W) (i : Nat) (hi : i < (S.set k ⟨Av, f.length, cv⟩ : List FilS).length) (hi2 : i < (Fl.set k f).length) => hid (rmatch09M_c W (.slice (S.set k ⟨Av, f.length, cv⟩ : List FilS)[i].A (S.set k ⟨Av, f.length, cv⟩ : List FilS)[i].n (S.set k ⟨Av, f.length, cv⟩ : List FilS)[i].c) ((Fl.set k f)[i]'hi2) x ((hs2.ext hW).2 i hi hi2) hx (HL' _ (List.getElem_mem _)).1)
  have HM2 := fun W (hW : Ext w W) => hid (rmatch09M_c W (.slice Av f.length cv) f x (hf.ext hW) hx hlf2.1)
  unfold FileI.val at HM1 HM2
  have HT : Hid (checkT up (Fl.set k f) = 0 → ∀ i (hi : i < (Fl.set k f).length), underB up ((i : Int) + 1) r = true → (Fl.set k f)[i].any (hitB x) = true → f.any (hitB x) = true) := fun hz i hi hu2 hm2 => by
    have h9 := under_has hz hu2 x (by
      rw [show ((i : Int) + 1 - 1).toNat = i by omega, List.getD_eq_getElem?_getD, List.getElem?_eq_getElem hi]; exact hm2)
    rw [show (r - 1).toNat = k by omega, List.getD_eq_getElem?_getD, List.getElem?_eq_getElem (by simp; omega), Option.getD_some, List.getElem_set_self] at h9
    exact h9
  have HApp9 := fun W (hW : Ext w W) => hid (app_copy (P := Tryz.prog) (t := 23) (tx := 23) (ty := 23) (w := W) fil_elem fil_coded Tryz.underlying23 (hS.ext hW) (by omega) (by omega))
  have HAppQ := fun W (hW : Ext w W) (B q : Nat) (ho : W.ownsRow B 30 1 (.slice (some ⟨q, 0, none⟩) 0 0) 0 []) (hB : B ≤ W.heap.size) => hid (fils_copy0 ho hB (hS.ext hW) hSn hp hm9)
  obtain ⟨_, _, bF, oF, rfl, hbF, hcF⟩ := row_at hS hSn hp
  have HcF := hid hcF
  have HSn := hid hSn
  have HLen := hid hlen
  rw [e0] at HCk
  have hSk : k < S.length := by omega
  clear hm hu hF hf hx hlt hlf hlf2 ht hin e0 hsh hS hA hs2 HL' hcF hSn hlen i1 i2
  generalize checkT up (Fl.set k f) = ck at HMy HC2 HT
  go_enter Tryz.func4, Tryz.ntmps4
  go_upto_region 1 with fail
  go_cut [3, 4, 5, 6] from 12 (fun s3 s4 s5 s6 wx => ∃ gt gx, s3 = .pointer (some ⟨gt, 0, none⟩) ∧ s4 = .int .i64 r ∧ s5 = .slice Av f.length cv ∧ s6 = .pointer (some ⟨gx, 0, none⟩) ∧ Ext w wx ∧ Blk wx gt 25 #[.slice A up.length c, .slice (some ⟨bF, oF, none⟩) Fl.length cF] ∧ Blk wx gx 32 #[.string x.p, .int .i64 x.size, .bool x.dead])
  case first =>
    go_big_region
    all_goals go_wp2_with fail
    all_goals go_meet
    · have k := two_new w (.cells #[.slice A up.length c, .slice (some ⟨bF, oF, none⟩) Fl.length cF, .int .i64 r, .slice Av f.length cv, .string x.p, .int .i64 x.size, .bool x.dead] 34) #[.slice A up.length c, .slice (some ⟨bF, oF, none⟩) Fl.length cF] #[.string x.p, .int .i64 x.size, .bool x.dead] 25 32
      exact ⟨_, _, rfl, rfl, rfl, rfl, k.1, k.2.1, k.2.2⟩
    · have k := two_new w (.cells #[.slice A up.length c, .slice (some ⟨bF, oF, none⟩) Fl.length cF, .int .i64 r, .slice Av f.length cv, .string x.p, .int .i64 x.size, .bool x.dead] 34) #[.string x.p, .int .i64 x.size, .bool x.dead] #[.slice A up.length c, .slice (some ⟨bF, oF, none⟩) Fl.length cF] 32 25
      exact ⟨_, _, rfl, rfl, rfl, rfl, k.1, k.2.2, k.2.1⟩
  obtain ⟨gt, gx, rfl, rfl, rfl, rfl, hE1, hb1, hb2⟩ := hcut
  have X1 := hid hE1
  have T1 := hid hb1
  have Y1 := hid hb2
  have a1 := hb1.cell (i := 0) (v := .slice A up.length c) rfl
  have b1 := hb1.cell (i := 1) (v := .slice (some ⟨bF, oF, none⟩) Fl.length cF) rfl
  have l1 := hb1.lt
  clear hE1 hb1 hb2
  go_wp2_with fail
  refine ((HLt _ X1.out).out).mono ?_
  rintro e w2 ⟨rfl, x2⟩
  have X2 := hid (X1.out.trans x2)
  have T2 := hid (T1.out.ext x2)
  have Y2 := hid (Y1.out.ext x2)
  have a2 := T2.out.cell (i := 0) (v := .slice A up.length c) rfl
  have b2 := T2.out.cell (i := 1) (v := .slice (some ⟨bF, oF, none⟩) Fl.length cF) rfl
  have l2 := T2.out.lt
  clear x2 T1 Y1 a1 b1 l1
  clear HLt
  go_wp2_with fail
  refine ((HLf _ X2.out).out).mono ?_
  rintro e w3 ⟨rfl, x3⟩
  have X3 := hid (X2.out.trans x3)
  have T3 := hid (T2.out.ext x3)
  have Y3 := hid (Y2.out.ext x3)
  have a3 := T3.out.cell (i := 0) (v := .slice A up.length c) rfl
  have b3 := T3.out.cell (i := 1) (v := .slice (some ⟨bF, oF, none⟩) Fl.length cF) rfl
  have l3 := T3.out.lt
  clear x3 T2 Y2 a2 b2 l2
  clear HLf
  go_wp2_with fail
  refine ((HMy _ X3.out).out).mono ?_
  rintro e w4 ⟨rfl, x4⟩
  have X4 := hid (X3.out.trans x4)
  have T4 := hid (T3.out.ext x4)
  have Y4 := hid (Y3.out.ext x4)
  have a4 := T4.out.cell (i := 0) (v := .slice A up.length c) rfl
  have b4 := T4.out.cell (i := 1) (v := .slice (some ⟨bF, oF, none⟩) Fl.length cF) rfl
  have l4 := T4.out.lt
  clear x4 T3 Y3 a3 b3 l3
  clear HMy
  go_wp2_with fail
  refine ((HCk _ X4.out).out).mono ?_
  rintro e w5 ⟨rfl, x5⟩
  have X5 := hid (X4.out.trans x5)
  have T5 := hid (T4.out.ext x5)
  have Y5 := hid (Y4.out.ext x5)
  have a5 := T5.out.cell (i := 0) (v := .slice A up.length c) rfl
  have b5 := T5.out.cell (i := 1) (v := .slice (some ⟨bF, oF, none⟩) Fl.length cF) rfl
  have l5 := T5.out.lt
  clear x5 T4 Y4 a4 b4 l4
  clear HCk
  obtain ⟨v9, w9, hrun9, hs9, x9⟩ := (HApp9 _ X5.out).out
  obtain ⟨A9, c9, rfl, _⟩ := sl_get hs9
  rw [HSn.out] at hrun9 hs9
  have HS9 := hid hs9
  clear hs9 HApp9
  go_wp2_with (first
    | (at_builtin; refine wpList_app rfl (.tmp 57) (.tmp 59) _ _ rfl rfl rfl hrun9 ?_))
  clear hrun9
  have X9 := hid (X5.out.trans x9)
  have T9 := hid (T5.out.ext x9)
  have Y9 := hid (Y5.out.ext x9)
  have a9 := T9.out.cell (i := 0) (v := .slice A up.length c) rfl
  have b9 := T9.out.cell (i := 1) (v := .slice (some ⟨bF, oF, none⟩) Fl.length cF) rfl
  have l9 := T9.out.lt
  clear x9 T5 Y5 a5 b5 l5
  obtain ⟨_, _, bb9, o9, rfl, hb9, hc9⟩ := row_at HS9.out HSn.out hp
  have Hc9 := hid hc9
  clear hc9 HS9
  refine wp_region_last (Rel.ext) (pre := ?pre1) (z := ?z1) ?hpre1 ?hz1 ((fun _ _ he h => Ext.trans h he)) (by kernel_rfl) (by kernel_rfl) (by kernel_rfl) (by kernel_rfl) ?_
  case hpre1 => (simp only [List.dropLast_cons_cons, List.dropLast_singleton]; first | done | exact rfl)
  case hz1 => (simp only [List.getLast?_cons_cons, List.getLast?_singleton]; first | done | exact rfl)
  repeat (first
    | (refine AWq.val rfl rfl rfl rfl (fun K hK => ?_); go_big_quiet_op; refine hK _ ?_; clear hK K)
    | (refine AWq.skip rfl rfl rfl ?_; simp only [Act.put, List.setIfInBounds_toArray, List.set_cons_succ, List.set_cons_zero])
    | (refine AWq.opV (fun v w => ∃ q, v = .slice (some ⟨q, 0, none⟩) 0 0 ∧ w.ownsRow w9.heap.size 30 1 (.slice (some ⟨q, 0, none⟩) 0 0) 0 []) (fun v w w' he h => by { obtain ⟨q, h1, h2⟩ := h; exact ⟨q, h1, ownsRow_ext h2 he⟩ }) rfl rfl rfl rfl (fun wc hc => ?_) ?_; (· (have hc2 := hc.size; have hc' := hc.rule; clear hc; go_simp; dsimp only [Gives]; exact ⟨⟨_, rfl, own_lit hc2 30 1 0 #[] (by unfold maxLen; omega) rfl⟩, Ext.alloc _ _⟩)))
    | (refine AWq.opQ (fun v w => ∃ g1 c1, v = .slice (some ⟨g1, 0, none⟩) Fl.length c1 ∧ RowF w9.heap.size S g1 c1 w) (fun v w w' he h => by { obtain ⟨g1, c1, h1, h2⟩ := h; exact ⟨g1, c1, h1, h2.ext he⟩ }) rfl (fun a wc hc hl' => ⟨rfl, ?_⟩) ?_; (· (have e63 : ∃ q, a.tmps.getD 63 undef = .slice (some ⟨q, 0, none⟩) 0 0 ∧ wc.ownsRow w9.heap.size 30 1 (.slice (some ⟨q, 0, none⟩) 0 0) 0 [] := hl' 63 (of_decide_eq_true (by kernel_rfl)); have e65 : a.tmps.getD 65 undef = .slice (some ⟨bF, oF, none⟩) Fl.length cF := hl' 65 (of_decide_eq_true (by kernel_rfl)); obtain ⟨q, e63, ho⟩ := e63; obtain ⟨g1, c1, w', hr', hO, hE⟩ := (HAppQ _ (X9.out.trans hc) _ _ ho hc.size).out; exact gives_app (a := a) (s := .tmp 63) (x := .tmp 65) rfl e63 e65 hr' ⟨⟨g1, c1, rfl, hO⟩, hE⟩)))
    | (refine AWq.opQ (fun v w => ∃ g1 c1, v = .agg #[.slice A up.length c, .slice (some ⟨g1, 0, none⟩) Fl.length c1] ∧ RowF w9.heap.size S g1 c1 w) (fun v w w' he h => by { obtain ⟨g1, c1, h1, h2⟩ := h; exact ⟨g1, c1, h1, h2.ext he⟩ }) rfl (fun a wc hc hl' => ⟨rfl, ?_⟩) ?_; (· (have e66 : ∃ g1 c1, a.tmps.getD 66 undef = .slice (some ⟨g1, 0, none⟩) Fl.length c1 ∧ RowF w9.heap.size S g1 c1 wc := hl' 66 (of_decide_eq_true (by kernel_rfl)); have e62 : a.tmps.getD 62 undef = .slice A up.length c := hl' 62 (of_decide_eq_true (by kernel_rfl)); obtain ⟨g1, c1, e66, hO⟩ := e66; (have f62 : a.tmps[62]?.getD undef = .slice A up.length c := by rw [← Array.getD_eq_getD_getElem?]; exact e62); (have f66 : a.tmps[66]?.getD undef = .slice (some ⟨g1, 0, none⟩) Fl.length c1 := by rw [← Array.getD_eq_getD_getElem?]; exact e66); clear e62 e66 hl'; go_simp; exact ⟨⟨g1, c1, rfl, hO⟩, Ext.refl _⟩)))
    | (refine AWq.opV (fun v w => ∃ q, v = .pointer (some ⟨q, 0, none⟩) ∧ w9.heap.size ≤ q ∧ Blk w q 25 #[.slice none 0 0, .slice none 0 0]) (fun v w w' he h => by { obtain ⟨q, h1, h2, h3⟩ := h; exact ⟨q, h1, h2, h3.ext he⟩ }) rfl rfl rfl rfl (fun wc hc => ?_) ?_; (· (have hc2 := hc.size; have hc' := hc.rule; clear hc; go_simp; dsimp only [Gives]; exact ⟨⟨_, rfl, hc2, Blk.new _ _ _⟩, Ext.alloc _ _⟩))))
  refine AWq.last rfl rfl rfl (fun w12 x12 => ?_)
  simp only [closeAny, Act.put, List.setIfInBounds_toArray, List.set_cons_succ, List.set_cons_zero]
  rintro v10 ⟨q, rfl, hq1, hq2⟩ v67 ⟨g1, c1, rfl, hg⟩ v66 h66 v63 h63
  clear h66 h63 HAppQ
  have hg0 := row_block hg g1 rfl
  have hne : ¬ q = g1 := hg.apart hq2
  have hne' : ¬ g1 = q := fun h => hne h.symm
  have hu0 : w12.cell? ⟨g1, k, none⟩ = some S[k].val := by
    have := fil_coded.flat_at S k 0 hSk (by omega)
    rw [Nat.mul_one, Nat.add_zero] at this
    rw [World.ownsRow.cellAt hg k (by omega), this]; rfl
  have hfz := World.ownsRow.frozenAt hg k
  have E3 := ((x12.setCell' (p := ⟨q, 0, none⟩) hq1 (.slice A up.length c)).setCell' (p := ⟨q, 1, none⟩) hq1 (.slice (some ⟨g1, 0, none⟩) Fl.length c1)).setCell' (p := ⟨g1, k, none⟩) hg0.1 (.slice Av f.length cv)
  have B2 : Blk ((w12.setCell ⟨q, 0, none⟩ (.slice A up.length c)).setCell ⟨q, 1, none⟩ (.slice (some ⟨g1, 0, none⟩) Fl.length c1)) q 25 #[.slice A up.length c, .slice (some ⟨g1, 0, none⟩) Fl.length c1] := (hq2.set 0 (.slice A up.length c)).set 1 (.slice (some ⟨g1, 0, none⟩) Fl.length c1)
  have B3 := B2.far (p := ⟨g1, k, none⟩) hne (.slice Av f.length cv)
  have R2 := ownsRow_setCell_other (ownsRow_setCell_other hg (a := ⟨q, 0, none⟩) (by intro h; injection h with h; exact hne' h) (.slice A up.length c)) (a := ⟨q, 1, none⟩) (by intro h; injection h with h; exact hne' h) (.slice (some ⟨g1, 0, none⟩) Fl.length c1)
  have R3 : RowF w9.heap.size (S.set k ⟨Av, f.length, cv⟩) g1 c1 (((w12.setCell ⟨q, 0, none⟩ (.slice A up.length c)).setCell ⟨q, 1, none⟩ (.slice (some ⟨g1, 0, none⟩) Fl.length c1)).setCell ⟨g1, k, none⟩ (.slice Av f.length cv)) := own_set R2 k ⟨Av, f.length, cv⟩
  have p0 := hq2.cell (i := 0) rfl
  have p1 := hq2.cell (i := 1) rfl
  have z0 := hq2.frozen 0
  have z1 := hq2.frozen 1
  have lq := hq2.lt
  have lg := hg0.2
  have q0 := B2.cell (i := 0) rfl
  have q1 := B2.cell (i := 1) rfl
  have s0 := B3.cell (i := 0) rfl
  have s1 := B3.cell (i := 1) rfl
  have dk : k < Fl.length := by have := HLen.out; omega
  have HE3 := hid E3
  have HB3 := hid B3
  have HR3 := hid R3
  clear E3 B3 R3 B2 R2 hg hq2 x12
  go_wp2_with fail
  generalize ((w12.setCell ⟨q, 0, none⟩ (.slice A up.length c)).setCell ⟨q, 1, none⟩ (.slice (some ⟨g1, 0, none⟩) Fl.length c1)).setCell ⟨g1, k, none⟩ (.slice Av f.length cv) = w13 at HE3 HB3 HR3 s0 s1 ⊢
  have X13 := hid (X9.out.trans HE3.out)
  refine ((HC2 _ X13.out g1 c1 (HFs _ X13.out _ _ _ HR3.out).out).out).mono ?_
  rintro e w14 ⟨rfl, x14⟩
  have X14 := hid (X13.out.trans x14)
  have HE14 := hid (HE3.out.trans x14)
  have HB14 := hid (HB3.out.ext x14)
  have HR14 := hid (HR3.out.ext x14)
  have T14 := hid (T9.out.ext HE14.out)
  have Y14 := hid (Y9.out.ext HE14.out)
  clear p0 p1 z0 z1 lq lg q0 q1 s0 s1 hu0 hfz x14 HB3 HR3 HE3 HC2 HFs X13 a9 b9 l9
  go_wp2_with fail
  go_loopw [11] (fun s11 wr => ∃ i : Nat, i ≤ Fl.length ∧ s11 = .int .i64 i ∧ Ext w14 wr) (fun s11 _ => Fl.length - (intOf s11).toNat)
  case atStart => exact ⟨0, by omega, rfl, Ext.refl _⟩
  case round =>
    obtain ⟨i, hi, rfl, hE⟩ := hrel
    have HE := hid hE
    have XR := hid (X14.out.trans hE)
    have TR := hid (T14.out.ext hE)
    have aR := TR.out.cell (i := 0) (v := .slice A up.length c) rfl
    have bR := TR.out.cell (i := 1) (v := .slice (some ⟨bF, oF, none⟩) Fl.length cF) rfl
    have lR := TR.out.lt
    by_cases hlt : i < Fl.length
    · have di : decide (i < Fl.length) = true := decide_eq_true hlt
      have hiS : i < S.length := by have := HSn.out; omega
      have cF' := XR.out.cell (HcF.out i hiS)
      have lF' := Nat.lt_of_lt_of_le hbF XR.out.size
      have c9' := (HE14.out.trans hE).cell (Hc9.out i hiS)
      have l9' := Nat.lt_of_lt_of_le hb9 (HE14.out.trans hE).size
      have hiS' : i < (S.set k ⟨Av, f.length, cv⟩ : List FilS).length := by simp; exact hiS
      have HRow := hid (row_at (S := S.set k ⟨Av, f.length, cv⟩) (sl_of_row (xs := (S.set k ⟨Av, f.length, cv⟩ : List FilS).map FilS.cells) (fil_coded.sizes _) (by rw [List.length_map]; exact HR14.out.ext hE)) rfl (by simp; omega))
      have HEq' := fun W (hW : Ext wr W) => hid (HEq W (XR.out.trans hW) i hiS).out
      have HUd' := fun W (hW : Ext wr W) => hid (HUd W (XR.out.trans hW) i (by have := HLen.out; omega)).out
      have HM1' := fun W (hW : Ext wr W) => hid (HM1 W (XR.out.trans hW) i hiS' (by simp; omega)).out
      have HM2' := fun W (hW : Ext wr W) => hid (HM2 W (XR.out.trans hW)).out
      have HT' : Hid (ck = 0 → underB up ((i : Int) + 1) r = true → ((Fl.set k f)[i]'(by simp; omega)).any (hitB x) = true → f.any (hitB x) = true) := fun h1 h2 h3 => HT.out h1 i (by simp; omega) h2 h3
      clear HEq HUd HM1 HM2 HT HAw
      go_wp2_with fail
      refine wp_region_any_order (by kernel_rfl) (by kernel_rfl) (by kernel_rfl) ?_
      repeat (first
        | (refine AWq.val rfl rfl rfl rfl (fun K hK => ?_); go_big_quiet_op; refine hK _ ?_; clear hK K)
        | (refine AWq.skip rfl rfl rfl ?_; simp only [Act.put, List.setIfInBounds_toArray, List.set_cons_succ, List.set_cons_zero])
        | (refine AWq.call rfl Tryz.func16 (by kernel_rfl) (by kernel_rfl) rfl rfl rfl ?_; apply Exists.intro; refine And.intro (fun wc hc => ?_) ?_; (· (simp only [argsOf, anyAt, ↓reduceIte, Nat.reduceEqDiff, Array.getD_eq_getD_getElem?, List.getElem?_toArray, List.getElem?_cons_succ, List.getElem?_cons_zero, Option.getD_some]; with_reducible exact (HEq' _ hc).out)); simp only [Act.put, List.setIfInBounds_toArray, List.set_cons_succ, List.set_cons_zero]))
      refine AWq.done rfl rfl rfl (fun w20 x20 => ?_)
      simp only [closeAny, Act.put, List.setIfInBounds_toArray, List.set_cons_succ, List.set_cons_zero]
      obtain ⟨_, _, bY, oY, hY, lY, hcY⟩ := HRow.out
      injection hY with hY
      injection hY with hY1 hY2
      subst hY1 hY2
      have cY' := x20.cell (hcY i hiS')
      rw [Nat.zero_add] at cY'
      have lY' := Nat.lt_of_lt_of_le lY x20.size
      have BR := (HB14.out.ext hE).ext x20
      have r0 := BR.cell (i := 0) rfl
      have r1 := BR.cell (i := 1) rfl
      have rl := BR.lt
      have YR := (Y14.out.ext hE).ext x20
      have y0 := YR.cell (i := 0) (v := .string x.p) rfl
      have y1 := YR.cell (i := 1) (v := .int .i64 x.size) rfl
      have y2 := YR.cell (i := 2) (v := .bool x.dead) rfl
      have yl := YR.lt
      have TR2 := TR.out.ext x20
      have aR2 := TR2.cell (i := 0) (v := .slice A up.length c) rfl
      have bR2 := TR2.cell (i := 1) (v := .slice (some ⟨bF, oF, none⟩) Fl.length cF) rfl
      have lR2 := TR2.lt
      have hlS : i < (S.set k ⟨Av, f.length, cv⟩ : List FilS).length := hiS'
      have X20 := hid x20
      clear hcY BR YR TR2 hE lY cF' lF' c9' l9' aR bR lR HRow HEq' x20
      generalize (S.set k ⟨Av, f.length, cv⟩ : List FilS)[i] = sy at cY' HM1'
      generalize (Fl.set k f)[i]'(by simp; omega) = fy at HM1' HT'
      generalize fy.any (hitB x) = m1 at HM1' HT'
      generalize f.any (hitB x) = m2 at HM2' HT'
      generalize underB up ((i : Int) + 1) r = ud at HUd' HT'
      cases dck : ck == 0 with
      | false =>
        go_wp2_with fail
        refine wp_region_any_order (by kernel_rfl) (by kernel_rfl) (by kernel_rfl) ?_
        repeat (first
          | (refine AWq.val rfl rfl rfl rfl (fun K hK => ?_); go_big_quiet_op; refine hK _ ?_; clear hK K)
          | (refine AWq.skip rfl rfl rfl ?_; simp only [Act.put, List.setIfInBounds_toArray, List.set_cons_succ, List.set_cons_zero])
          | (refine AWq.call rfl Tryz.func17 (by kernel_rfl) (by kernel_rfl) rfl rfl rfl ?_; apply Exists.intro; refine And.intro (fun wc hc => ?_) ?_; (· (simp only [argsOf, anyAt, ↓reduceIte, Nat.reduceEqDiff, Array.getD_eq_getD_getElem?, List.getElem?_toArray, List.getElem?_cons_succ, List.getElem?_cons_zero, Option.getD_some]; with_reducible exact (HUd' _ (X20.out.trans hc)).out)); simp only [Act.put, List.setIfInBounds_toArray, List.set_cons_succ, List.set_cons_zero])
          | (refine AWq.call rfl Tryz.func18 (by kernel_rfl) (by kernel_rfl) rfl rfl rfl ?_; apply Exists.intro; refine And.intro (fun wc hc => ?_) ?_; (· (simp only [argsOf, anyAt, ↓reduceIte, Nat.reduceEqDiff, Array.getD_eq_getD_getElem?, List.getElem?_toArray, List.getElem?_cons_succ, List.getElem?_cons_zero, Option.getD_some]; with_reducible exact (HM1' _ (X20.out.trans hc)).out)); simp only [Act.put, List.setIfInBounds_toArray, List.set_cons_succ, List.set_cons_zero])
          | (refine AWq.call rfl Tryz.func18 (by kernel_rfl) (by kernel_rfl) rfl rfl rfl ?_; apply Exists.intro; refine And.intro (fun wc hc => ?_) ?_; (· (simp only [argsOf, anyAt, ↓reduceIte, Nat.reduceEqDiff, Array.getD_eq_getD_getElem?, List.getElem?_toArray, List.getElem?_cons_succ, List.getElem?_cons_zero, Option.getD_some]; with_reducible exact (HM2' _ (X20.out.trans hc)).out)); simp only [Act.put, List.setIfInBounds_toArray, List.set_cons_succ, List.set_cons_zero]))
        refine AWq.done rfl rfl rfl (fun w21 x21 => ?_)
        simp only [closeAny, Act.put, List.setIfInBounds_toArray, List.set_cons_succ, List.set_cons_zero]
        go_wp2_with fail
        go_roundw
        case rel => exact ⟨i + 1, by omega, by go_num, (HE.out.trans X20.out).trans x21⟩
        case measure => simp [intOf]; omega
      | true =>
        cases ud with
        | false =>
          go_wp2_with fail
          refine wp_region_any_order (by kernel_rfl) (by kernel_rfl) (by kernel_rfl) ?_
          repeat (first
            | (refine AWq.val rfl rfl rfl rfl (fun K hK => ?_); go_big_quiet_op; refine hK _ ?_; clear hK K)
            | (refine AWq.skip rfl rfl rfl ?_; simp only [Act.put, List.setIfInBounds_toArray, List.set_cons_succ, List.set_cons_zero])
            | (refine AWq.call rfl Tryz.func17 (by kernel_rfl) (by kernel_rfl) rfl rfl rfl ?_; apply Exists.intro; refine And.intro (fun wc hc => ?_) ?_; (· (simp only [argsOf, anyAt, ↓reduceIte, Nat.reduceEqDiff, Array.getD_eq_getD_getElem?, List.getElem?_toArray, List.getElem?_cons_succ, List.getElem?_cons_zero, Option.getD_some]; with_reducible exact (HUd' _ (X20.out.trans hc)).out)); simp only [Act.put, List.setIfInBounds_toArray, List.set_cons_succ, List.set_cons_zero])
            | (refine AWq.call rfl Tryz.func18 (by kernel_rfl) (by kernel_rfl) rfl rfl rfl ?_; apply Exists.intro; refine And.intro (fun wc hc => ?_) ?_; (· (simp only [argsOf, anyAt, ↓reduceIte, Nat.reduceEqDiff, Array.getD_eq_getD_getElem?, List.getElem?_toArray, List.getElem?_cons_succ, List.getElem?_cons_zero, Option.getD_some]; with_reducible exact (HM1' _ (X20.out.trans hc)).out)); simp only [Act.put, List.setIfInBounds_toArray, List.set_cons_succ, List.set_cons_zero])
            | (refine AWq.call rfl Tryz.func18 (by kernel_rfl) (by kernel_rfl) rfl rfl rfl ?_; apply Exists.intro; refine And.intro (fun wc hc => ?_) ?_; (· (simp only [argsOf, anyAt, ↓reduceIte, Nat.reduceEqDiff, Array.getD_eq_getD_getElem?, List.getElem?_toArray, List.getElem?_cons_succ, List.getElem?_cons_zero, Option.getD_some]; with_reducible exact (HM2' _ (X20.out.trans hc)).out)); simp only [Act.put, List.setIfInBounds_toArray, List.set_cons_succ, List.set_cons_zero]))
          refine AWq.done rfl rfl rfl (fun w21 x21 => ?_)
          simp only [closeAny, Act.put, List.setIfInBounds_toArray, List.set_cons_succ, List.set_cons_zero]
          go_wp2_with fail
          go_roundw
          case rel => exact ⟨i + 1, by omega, by go_num, (HE.out.trans X20.out).trans x21⟩
          case measure => simp [intOf]; omega
        | true =>
          cases m1 with
          | false =>
            go_wp2_with fail
            refine wp_region_any_order (by kernel_rfl) (by kernel_rfl) (by kernel_rfl) ?_
            repeat (first
              | (refine AWq.val rfl rfl rfl rfl (fun K hK => ?_); go_big_quiet_op; refine hK _ ?_; clear hK K)
              | (refine AWq.skip rfl rfl rfl ?_; simp only [Act.put, List.setIfInBounds_toArray, List.set_cons_succ, List.set_cons_zero])
              | (refine AWq.call rfl Tryz.func17 (by kernel_rfl) (by kernel_rfl) rfl rfl rfl ?_; apply Exists.intro; refine And.intro (fun wc hc => ?_) ?_; (· (simp only [argsOf, anyAt, ↓reduceIte, Nat.reduceEqDiff, Array.getD_eq_getD_getElem?, List.getElem?_toArray, List.getElem?_cons_succ, List.getElem?_cons_zero, Option.getD_some]; with_reducible exact (HUd' _ (X20.out.trans hc)).out)); simp only [Act.put, List.setIfInBounds_toArray, List.set_cons_succ, List.set_cons_zero])
              | (refine AWq.call rfl Tryz.func18 (by kernel_rfl) (by kernel_rfl) rfl rfl rfl ?_; apply Exists.intro; refine And.intro (fun wc hc => ?_) ?_; (· (simp only [argsOf, anyAt, ↓reduceIte, Nat.reduceEqDiff, Array.getD_eq_getD_getElem?, List.getElem?_toArray, List.getElem?_cons_succ, List.getElem?_cons_zero, Option.getD_some]; with_reducible exact (HM1' _ (X20.out.trans hc)).out)); simp only [Act.put, List.setIfInBounds_toArray, List.set_cons_succ, List.set_cons_zero])
              | (refine AWq.call rfl Tryz.func18 (by kernel_rfl) (by kernel_rfl) rfl rfl rfl ?_; apply Exists.intro; refine And.intro (fun wc hc => ?_) ?_; (· (simp only [argsOf, anyAt, ↓reduceIte, Nat.reduceEqDiff, Array.getD_eq_getD_getElem?, List.getElem?_toArray, List.getElem?_cons_succ, List.getElem?_cons_zero, Option.getD_some]; with_reducible exact (HM2' _ (X20.out.trans hc)).out)); simp only [Act.put, List.setIfInBounds_toArray, List.set_cons_succ, List.set_cons_zero]))
            refine AWq.done rfl rfl rfl (fun w21 x21 => ?_)
            simp only [closeAny, Act.put, List.setIfInBounds_toArray, List.set_cons_succ, List.set_cons_zero]
            go_wp2_with fail
            go_roundw
            case rel => exact ⟨i + 1, by omega, by go_num, (HE.out.trans X20.out).trans x21⟩
            case measure => simp [intOf]; omega
          | true =>
            obtain rfl := HT'.out (by simpa using dck) rfl rfl
            go_wp2_with fail
            refine wp_region_any_order (by kernel_rfl) (by kernel_rfl) (by kernel_rfl) ?_
            repeat (first
              | (refine AWq.val rfl rfl rfl rfl (fun K hK => ?_); go_big_quiet_op; refine hK _ ?_; clear hK K)
              | (refine AWq.skip rfl rfl rfl ?_; simp only [Act.put, List.setIfInBounds_toArray, List.set_cons_succ, List.set_cons_zero])
              | (refine AWq.call rfl Tryz.func17 (by kernel_rfl) (by kernel_rfl) rfl rfl rfl ?_; apply Exists.intro; refine And.intro (fun wc hc => ?_) ?_; (· (simp only [argsOf, anyAt, ↓reduceIte, Nat.reduceEqDiff, Array.getD_eq_getD_getElem?, List.getElem?_toArray, List.getElem?_cons_succ, List.getElem?_cons_zero, Option.getD_some]; with_reducible exact (HUd' _ (X20.out.trans hc)).out)); simp only [Act.put, List.setIfInBounds_toArray, List.set_cons_succ, List.set_cons_zero])
              | (refine AWq.call rfl Tryz.func18 (by kernel_rfl) (by kernel_rfl) rfl rfl rfl ?_; apply Exists.intro; refine And.intro (fun wc hc => ?_) ?_; (· (simp only [argsOf, anyAt, ↓reduceIte, Nat.reduceEqDiff, Array.getD_eq_getD_getElem?, List.getElem?_toArray, List.getElem?_cons_succ, List.getElem?_cons_zero, Option.getD_some]; with_reducible exact (HM1' _ (X20.out.trans hc)).out)); simp only [Act.put, List.setIfInBounds_toArray, List.set_cons_succ, List.set_cons_zero])
              | (refine AWq.call rfl Tryz.func18 (by kernel_rfl) (by kernel_rfl) rfl rfl rfl ?_; apply Exists.intro; refine And.intro (fun wc hc => ?_) ?_; (· (simp only [argsOf, anyAt, ↓reduceIte, Nat.reduceEqDiff, Array.getD_eq_getD_getElem?, List.getElem?_toArray, List.getElem?_cons_succ, List.getElem?_cons_zero, Option.getD_some]; with_reducible exact (HM2' _ (X20.out.trans hc)).out)); simp only [Act.put, List.setIfInBounds_toArray, List.set_cons_succ, List.set_cons_zero]))
            refine AWq.done rfl rfl rfl (fun w21 x21 => ?_)
            simp only [closeAny, Act.put, List.setIfInBounds_toArray, List.set_cons_succ, List.set_cons_zero]
            go_wp2_with fail
            go_roundw
            case rel => exact ⟨i + 1, by omega, by go_num, (HE.out.trans X20.out).trans x21⟩
            case measure => simp [intOf]; omega
    · obtain rfl : i = Fl.length := by omega
      have di : decide (Fl.length < Fl.length) = false := decide_eq_false (by omega)
      clear HEq HUd HM1 HM2 HT hE
      go_wp2_with fail
      refine ((HAw _ XR.out).out).mono ?_
      rintro e w15 ⟨rfl, x15⟩
      have X15 := hid (XR.out.trans x15)
      clear x15
      go_wp2_with fail
      go_ret
      exact ⟨rfl, X15.out⟩
end Go.Proofs.YtjnjamhohnnefaaGreatDoor
