/-
  pack.read.
  pack.parts of versions (written by gen_parts.py).
  pack.same of vectors; pack.read.
  pack.GetVec.
-/
import Derived.Test.YtmbgakjkhgdjnaaGreatDoorLbTk
import Derived.Test.YtmbgakjkhgdjnaaGreatDoorQbF
import Derived.Test.YtmbgakjkhgdjnaaGreatDoorResk
import Derived.Test.YtmbgakjkhgdjnaaGreatDoorAwT
import Derived.Test.YtmbgakjkhgdjnaaGreatDoorStrk
namespace Go.Proofs.YtmbgakjkhgdjnaaGreatDoor
set_option linter.unusedSimpArgs false
set_option linter.unusedVariables false
open Go.RowKit

theorem verB_list {x : Ver} (h : okVer x) : (verB x).data.toList = lebL x.by_.toNat ++ (lebL x.n.toNat ++ []) := by
  unfold verB
  rw [ByteArray.data_append, Array.toList_append, numB_list h.1, numB_list h.2.2.1, List.append_nil]
theorem read_back {s s2 : ByteArray} {e2 : Int} {z1 z2 : Nat} (r : ReadV s 0 z1 z2 s2 e2) (x : Ver) (hx : okVer x) (hs : s = verB x) : x = ⟨z1, z2⟩ ∧ endK s2 e2 = 0 := by
  obtain ⟨h1, h2, h3, h4⟩ := hx
  obtain ⟨a1, a2, a3, a4⟩ := r x.by_.toNat x.n.toNat [] rfl (by omega) (by omega) (by rw [hs, verB_list ⟨h1, h2, h3, h4⟩])
  constructor
  · obtain ⟨b, n⟩ := x
    dsimp only at *
    rw [show (z1 : Int) = b by omega, show (z2 : Int) = n by omega]
  · unfold endK
    have : s2.size = 0 := by
      have h : s2.data.toList.length = s2.size := by rw [Array.length_toList]; rfl
      rw [← h, a3]; rfl
    rw [if_pos a4, if_pos this]
set_option maxRecDepth 100000 in
set_option maxHeartbeats 8000000 in
theorem read_c (w : World) (s : ByteArray) (hs : s.size ≤ 1000000) : Calls Tryz.prog 94 #[.string s] w (fun en w' => ∃ (z1 z2 : Nat) (e : Int), en = .returned (.tuple #[.agg #[.int .i64 z1, .int .i64 z2], .int .i64 e]) ∧ z1 < 9223372036854775808 ∧ z2 < 9223372036854775808 ∧ Ext w w' ∧ ∀ x : Ver, okVer x → s = verB x → x = ⟨z1, z2⟩ ∧ e = 0) := by
  have HO := fun W => hid (over_c W s)
  have HV := fun W q (h' : InAt W q s 0) => hid (getVer_c W q s 0 h' hs)
  have HEnd := fun W q (s' : ByteArray) (e' : Int) (h' : InAt W q s' e') => hid (end_c W q s' e' h')
  have HR0 := hid (Blk.new w 60 #[.int .i64 0, .int .i64 0])
  have HE0 := hid (Ext.alloc w (.cells #[.int .i64 0, .int .i64 0] 60))
  clear hs
  go_enter Tryz.func94, Tryz.ntmps94
  go_wp2_with fail
  refine ((HO _).out).mono ?_
  rintro en w1 ⟨v, rfl, ⟨q, rfl, hq, hI⟩, x1⟩
  have HI1 := hid hI
  have HR1 := hid (HR0.out.ext x1)
  have HE1 := hid (HE0.out.trans x1)
  rw [World.size_alloc] at hq
  have NR : Hid (¬ w.heap.size = q) := by unfold Hid; omega
  have HQ := hid hq
  clear hI x1 hq HR0 HE0 HO
  go_wp2_with fail
  refine ((HV _ _ HI1.out).out).mono ?_
  rintro en w2 ⟨z1, z2, s2, e2, rfl, hz1, hz2, k2, h2, _, r2⟩
  have Z1 := hid hz1
  have Z2 := hid hz2
  have RB := hid (fun x hx hs => read_back r2 x hx hs)
  have HR2 := hid ((HR1.out.keep k2 NR.out).alloc (.cells #[.int .i64 z1, .int .i64 z2] 60))
  have HI2 := hid (h2.ext (Ext.alloc w2 (.cells #[.int .i64 z1, .int .i64 z2] 60)))
  have HU2 := hid (Blk.new w2 60 #[.int .i64 z1, .int .i64 z2])
  have HE2 : Hid (Ext w w2) := Ext.of_below (((Keep.of_ext (S := fun g => g = q) HE1.out).trans k2).below (Nat.le_refl _) fun k hk => by have := HQ.out; omega)
  have HE3 := hid (HE2.out.alloc' (.cells #[.int .i64 z1, .int .i64 z2] 60))
  have HG : Hid (w.heap.size < w2.heap.size) := (HR1.out.keep k2 NR.out).lt
  clear hz1 hz2 k2 h2 r2 HI1 HR1 HE1 HV HE2
  go_wp2_with fail
  generalize w2.alloc (.cells #[.int .i64 z1, .int .i64 z2] 60) = w3 at HR2 HI2 HU2 HE3 ⊢
  have u0 := HU2.out.cell (i := 0) (v := .int .i64 z1) rfl
  have u1 := HU2.out.cell (i := 1) (v := .int .i64 z2) rfl
  have ul := HU2.out.lt
  refine wp_region_tail (pre := ?pre10) (tl := ?tl10) 3 ?hpre10 ?htl10 (of_decide_eq_true (by kernel_rfl)) (by kernel_rfl) (by kernel_rfl) (by kernel_rfl) (by kernel_rfl) ?_
  case hpre10 => (simp only [List.take_succ_cons, List.take_zero]; first | done | exact rfl)
  case htl10 => (simp only [List.drop_succ_cons, List.drop_zero]; first | done | exact rfl)
  repeat (first
    | (refine AWq.val rfl rfl rfl rfl (fun K hK => ?_); go_big_quiet_op; refine hK _ ?_; clear hK K)
    | (refine AWq.skip rfl rfl rfl ?_; simp only [Act.put, List.setIfInBounds_toArray, List.set_cons_succ, List.set_cons_zero])
    | (refine AWq.call rfl Tryz.func108 (by kernel_rfl) (by kernel_rfl) rfl rfl rfl ?_; apply Exists.intro; refine And.intro (fun wc hc => ?_) ?_; (· (simp only [argsOf, anyAt, ↓reduceIte, Nat.reduceEqDiff, Array.getD_eq_getD_getElem?, List.getElem?_toArray, List.getElem?_cons_succ, List.getElem?_cons_zero, Option.getD_some]; with_reducible exact (HEnd _ _ _ _ (HI2.out.ext hc)).out)); simp only [Act.put, List.setIfInBounds_toArray, List.set_cons_succ, List.set_cons_zero]))
  refine AWq.tail rfl rfl rfl (fun w4 x4 => ?_)
  simp only [closeAny, Act.put, List.setIfInBounds_toArray, List.set_cons_succ, List.set_cons_zero]
  clear u0 u1 ul
  have HR4 := hid (HR2.out.ext x4)
  have HE4 := hid (HE3.out.trans x4)
  have r0 := HR4.out.cell (i := 0) (v := .int .i64 0) rfl
  have r1 := HR4.out.cell (i := 1) (v := .int .i64 0) rfl
  have q0 := HR4.out.frozen 0
  have q1 := HR4.out.frozen 1
  have rl := HR4.out.lt
  clear HU2 HI2 HR2 HE3 x4 HEnd
  go_wp2_with fail
  have HF : Hid (Blk _ w.heap.size 60 #[.int .i64 z1, .int .i64 z2]) := (HR4.out.set 0 (.int .i64 z1)).set 1 (.int .i64 z2)
  refine bodyPost_ret (results_cell_row_tmp rfl _ _ w.heap.size 60 _ (0, 0) _ rfl HF.out Tryz.underlying60 rfl (show (Tryz.prog.info? 60).map (·.size) = some 2 by kernel_rfl)) rfl ?_
  exact ⟨z1, z2, endK s2 e2, rfl, Z1.out, Z2.out, (HE4.out.setCell' (p := ⟨w.heap.size, 0, none⟩) (Nat.le_refl _) _).setCell' (p := ⟨w.heap.size, 1, none⟩) (Nat.le_refl _) _, RB.out⟩
end Go.Proofs.YtmbgakjkhgdjnaaGreatDoor
namespace Go.Proofs.YtmbgakjkhgdjnaaGreatDoor
set_option linter.unusedSimpArgs false
set_option linter.unusedVariables false
open Go.RowKit

set_option maxRecDepth 100000 in
set_option maxHeartbeats 8000000 in
theorem partsV_c (w : World) (s : ByteArray) (hs : s.size ≤ 90000) (enc : Ver → ByteArray) (ok : Ver → Prop) (hone : ∀ W t, t.size ≤ s.size → Ext w W → Calls Tryz.prog 94 #[.string t] W (fun en w' => ∃ (x : Ver) (e : Int), en = .returned (.tuple #[.agg #[.int .i64 x.by_, .int .i64 x.n], .int .i64 e]) ∧ okVer x ∧ Ext W w' ∧ ∀ x0, ok x0 → t = enc x0 → x = x0 ∧ e = 0)) : Calls Tryz.prog 93 #[.string s, .func (.func 94) #[] #[]] w (fun en w' => ∃ (v : Value) (b : Bool) (l : List Ver), en = .returned (.tuple #[v, .bool b]) ∧ RowAt Ver.cells 2 l v w' ∧ l.length ≤ s.size ∧ (∀ x ∈ l, okVer x) ∧ Ext w w' ∧ (∀ l0 : List Ver, (∀ x ∈ l0, ok x) → l0.length ≤ 90000 → s = listB enc l0 → l = l0) ∧ w'.ownsRow w.heap.size 60 2 v l.length (l.map Ver.cells).flatten) := by
  have HO := fun W => hid (over_c W s)
  have HN := fun W q (h' : InAt W q s 0) => hid (n_c W q s 0 h' (by omega))
  have HT := fun W q (s' : ByteArray) (e' : Int) (h' : InAt W q s' e') (hs' : s'.size ≤ s.size) => hid (t_c W q s' e' h' (by omega))
  have HEnd := fun W q (s' : ByteArray) (e' : Int) (h' : InAt W q s' e') => hid (end_c W q s' e' h')
  have HOne := hid hone
  clear hone
  go_enter Tryz.func93, Tryz.ntmps93
  go_wp2_with fail
  refine ((HO _).out).mono ?_
  rintro en w1 ⟨v, rfl, ⟨q, rfl, hq, hI⟩, x1⟩
  have HI1 := hid hI
  have HE1 := hid x1
  have HQ := hid hq
  clear hI x1 hq HO
  go_wp2_with fail
  refine ((HN _ _ HI1.out).out).mono ?_
  rintro en w2 ⟨n, s2, e2, rfl, hn, k2, h2, hs2, r2⟩
  have HI2 := hid h2
  have HE2 : Hid (Ext w w2) := Ext.of_below (((Keep.of_ext (S := fun g => g = q) HE1.out).trans k2).below (Nat.le_refl _) fun k hk => by have := HQ.out; omega)
  have HS2 := hid hs2
  have HB : Hid (∀ l0 : List Ver, s = listB enc l0 → l0.length ≤ 90000 → n = l0.length ∧ l0.length ≤ s.size ∧ s2.data.toList = encL (l0.map (fun x => fT (enc x))) ∧ e2 = 0) := fun l0 a0 a1 => by
    have a2 : s.data.toList = lebL l0.length ++ encL (l0.map (fun x => fT (enc x))) := by
      rw [a0]
      show encL (fN l0.length :: l0.map (fun x => fT (enc x))) = _
      rw [encL_cons]; rfl
    obtain ⟨b1, b2, b3⟩ := r2 l0.length _ rfl (by omega) a2
    refine ⟨b1, ?_, b2, b3⟩
    have c1 : s.data.toList.length = s.size := by rw [Array.length_toList]; rfl
    rw [a2, List.length_append] at c1
    have := encT_ge enc l0
    omega
  clear k2 h2 r2 hs2 HI1 HE1 HN
  by_cases hbig : (s.size : Int) < n
  · have d0 : decide ((s.size : Int) < n) = true := decide_eq_true hbig
    have d0' : decide (s.size < n) = true := decide_eq_true (by omega)
    have HD : Hid (∀ l0 : List Ver, (∀ x ∈ l0, ok x) → l0.length ≤ 90000 → s = listB enc l0 → [] = l0) := fun l0 _ a1 a2 => by
      obtain ⟨b1, b2, _⟩ := HB.out l0 a2 a1
      exfalso; omega
    clear hbig HB HT HEnd HOne
    go_wp2_with fail
    go_ret2
    exact ⟨_, _, [], rfl, RowAt.nil _, Nat.zero_le _, fun x hx => (by cases hx), HE2.out, HD.out, ownsRow_nil _ _ _ _⟩
  · have d0 : decide ((s.size : Int) < n) = false := decide_eq_false hbig
    have d0' : decide (s.size < n) = false := decide_eq_false (by omega)
    have hn9 : n ≤ s.size := by omega
    clear hbig hn
    go_wp2_with fail
    go_loopw [8, 20] (fun s8 s20 wr => ∃ (k : Nat) (ov : Value) (l : List Ver) (s' : ByteArray) (e' : Int), ov = s8 ∧ k ≤ n ∧ s20 = .int .i64 k ∧ l.length = k ∧ Hid (Ext w wr) ∧ Hid (InAt wr q s' e') ∧ Hid (s'.size ≤ s.size) ∧ Hid (∀ x ∈ l, okVer x) ∧ Hid (l.length = 0 → s8 = .slice none 0 0) ∧ Hid (wr.ownsRow (q + 1) 60 2 s8 l.length (l.map Ver.cells).flatten) ∧ Hid (∀ l0 : List Ver, (∀ x ∈ l0, ok x) → s = listB enc l0 → l0.length ≤ 90000 → n = l0.length ∧ l = l0.take k ∧ s'.data.toList = encL ((l0.drop k).map (fun x => fT (enc x))) ∧ e' = 0)) (fun _ s20 _ => n - (intOf s20).toNat)
    case atStart => exact ⟨0, _, [], s2, e2, rfl, by omega, rfl, rfl, HE2, HI2, HS2, fun x hx => (by cases hx), fun _ => rfl, ownsRow_nil _ _ _ _, fun l0 a0 a1 a2 => by
      obtain ⟨b1, b2, b3, b4⟩ := HB.out l0 a1 a2
      exact ⟨b1, rfl, b3, b4⟩⟩
    case round =>
      obtain ⟨k, s8, l, s', e', rfl, hk, rfl, hlen, hE, hI, hS, hG, hZ, hO, hB⟩ := hrel
      clear HE2 HI2 HS2 HB
      by_cases hlt : k < n
      · have d1 : decide ((k : Int) < n) = true := decide_eq_true (by omega)
        have d1' : decide (k < n) = true := decide_eq_true hlt
        have hn9' := hid hn9
        have hln := hid hlen
        have hlt' := hid hlt
        clear hlen hlt
        go_wp2_with fail
        refine ((HT _ _ _ _ hI.out hS.out).out).mono ?_
        rintro en w3 ⟨t, s3, e3, rfl, ht, k3, h3, hs3, r3⟩
        have hI3 := hid h3
        have hE3 : Hid (Ext w w3) := Ext.of_below (((Keep.of_ext (S := fun g => g = q) hE.out).trans k3).below (Nat.le_refl _) fun k hk => by have := HQ.out; omega)
        have hO3 : Hid (w3.ownsRow (q + 1) 60 2 s8 l.length (l.map Ver.cells).flatten) := row_keep hO.out k3 (fun g hg => by omega)
        have hS3 : Hid (s3.size ≤ s.size) := by have := hS.out; unfold Hid; omega
        have HCall := HOne.out w3 t (by have := hS.out; omega) hE3.out
        have R3 := hid r3
        clear k3 h3 hs3 r3 ht hI hE hO hS
        go_wp2_with fail
        refine HCall.mono ?_
        rintro en w4 ⟨x, e, rfl, hg, x4, hb⟩
        have hI4 := hid (hI3.out.ext (x4.trans (Ext.alloc w4 (.cells #[.int .i64 x.by_, .int .i64 x.n] 60))))
        have hE4 := hid (hE3.out.trans (x4.trans (Ext.alloc w4 (.cells #[.int .i64 x.by_, .int .i64 x.n] 60))))
        have hO4 := hid (ownsRow_ext hO3.out (x4.trans (Ext.alloc w4 (.cells #[.int .i64 x.by_, .int .i64 x.n] 60))))
        have hW4 := hid (Blk.new w4 60 #[.int .i64 x.by_, .int .i64 x.n])
        have hB4 : Hid (∀ l0 : List Ver, (∀ x ∈ l0, ok x) → s = listB enc l0 → l0.length ≤ 90000 → e = 0 ∧ n = l0.length ∧ l ++ [x] = l0.take (k + 1) ∧ s3.data.toList = encL ((l0.drop (k + 1)).map (fun x => fT (enc x))) ∧ e3 = 0) := fun l0 a0 a1 a2 => by
          obtain ⟨b1, b2, b3, b4⟩ := hB.out l0 a0 a1 a2
          have hlt := hlt'.out
          have hkl : k < l0.length := by omega
          rw [List.drop_eq_getElem_cons hkl, List.map_cons, encL_cons] at b3
          have b3' : s'.data.toList = lebL (enc l0[k]).size ++ ((enc l0[k]).data.toList ++ encL ((l0.drop (k + 1)).map (fun x => fT (enc x)))) := by
            rw [b3]
            show (lebL (enc l0[k]).size ++ (enc l0[k]).data.toList) ++ _ = _
            rw [List.append_assoc]
          obtain ⟨c1, c2, c3⟩ := R3.out _ _ b4 b3'
          obtain ⟨f1, f2⟩ := hb l0[k] (a0 _ (List.getElem_mem hkl)) c1
          refine ⟨f2, b1, ?_, c2, c3⟩
          rw [List.take_succ_eq_append_getElem hkl, ← b2, f1]
        have hG4 : Hid (∀ y ∈ l ++ [x], okVer y) := fun y hy => by
          rcases List.mem_append.1 hy with hy | hy
          · exact hG.out y hy
          · rw [List.mem_singleton.1 hy]; exact hg
        clear hb hB R3 hI3 hE3 hO3 HCall hg hG
        by_cases h0 : e = 0
        · have d2 : (e != 0) = false := by simp [h0]
          clear h0
          obtain ⟨v', w6, hrun6, ho6, hk6, _⟩ := app_one (P := Tryz.prog) vr_elem vr_coded hO4.out (Nat.succ_le_of_lt hI4.out.lt) x (by have := hn9'.out; have := hln.out; omega) (by omega)
          simp only [Ver.cells, World.size_alloc] at hrun6
          have HE6 := hid (hk6.toExt hE4.out (fun g hg => Nat.le_trans HQ.out (Nat.le_of_lt (row_block hO4.out g hg).1)))
          have HI6 : Hid (InAt w6 q s3 e3) := Blk.keep hI4.out hk6 (fun h => by have := (row_block hO4.out q h).1; omega)
          have HO6 := hid ho6
          clear ho6 hk6 hI4 hE4 hO4 x4
          go_wp2_with (at_builtin; refine wpList_app rfl (.tmp 31) (.tmp 33) _ _ rfl rfl rfl hrun6 ?_)
          go_roundw
          case rel => exact ⟨k + 1, _, l ++ [x], s3, e3, rfl, by have := hlt'.out; omega, by go_num, by rw [List.length_append, hln.out]; rfl, HE6, HI6, hS3, hG4, fun h => by simp at h, HO6, fun l0 a0 a1 a2 => (hB4.out l0 a0 a1 a2).2⟩
          case measure => simp [intOf]; have := hlt'.out; omega
        · have d2 : (e != 0) = true := by simp [h0]
          have HD : Hid (∀ l0 : List Ver, (∀ x ∈ l0, ok x) → l0.length ≤ 90000 → s = listB enc l0 → [] = l0) := fun l0 a0 a1 a2 => absurd (hB4.out l0 a0 a2 a1).1 h0
          clear h0 hB4 hI4 hO4 hG4
          go_wp2_with fail
          go_ret2
          exact ⟨_, _, [], rfl, RowAt.nil _, Nat.zero_le _, fun x hx => (by cases hx), hE4.out, HD.out, ownsRow_nil _ _ _ _⟩
      · obtain rfl : k = n := by omega
        have hrow := hid (RowAt.of_row vr_coded hO.out hZ.out)
        have hO8 := hid (ownsRow_mono hO.out (Nat.le_succ_of_le HQ.out))
        have HD : Hid (∀ l0 : List Ver, (∀ x ∈ l0, ok x) → l0.length ≤ 90000 → s = listB enc l0 → l = l0) := fun l0 a0 a1 a2 => by
          obtain ⟨b1, b2, _⟩ := hB.out l0 a0 a2 a1
          rw [b2, b1, List.take_length]
        have HL : Hid (l.length ≤ s.size) := by unfold Hid; omega
        clear hB hO hZ HT HOne hlen hlt hk hn9
        go_wp2_with fail
        refine ((HEnd _ _ _ _ hI.out).out).mono ?_
        rintro en w7 ⟨rfl, x7⟩
        have hrow7 := hid (hrow.out.ext x7)
        have hO7 := hid (ownsRow_ext hO8.out x7)
        have hE7 := hid (hE.out.trans x7)
        clear hrow hE hI x7 HEnd
        go_wp2_with fail
        go_ret2
        exact ⟨_, _, l, rfl, hrow7.out, HL.out, hG.out, hE7.out, HD.out, hO7.out⟩
end Go.Proofs.YtmbgakjkhgdjnaaGreatDoor
namespace Go.Proofs.YtmbgakjkhgdjnaaGreatDoor
set_option linter.unusedSimpArgs false
set_option linter.unusedVariables false
open Go.RowKit

attribute [-simp] Tryz.isAgg44 Tryz.sizeOf44
set_option maxRecDepth 100000 in
set_option maxHeartbeats 2000000 in
theorem sameV_c (w : World) (v : List Int) (hv : v.length = 65) (s r : ByteArray) (e : Int) (HP : ∀ W, Ext w W → Hid (Calls Tryz.prog 34 #[.agg (vecV v)] W (Ret (.tuple #[.string r, .int .i64 e]) W))) : Calls Tryz.prog 95 #[.agg (vecV v), .string s, .func (.func 34) #[] #[]] w (Ret (.tuple #[.agg (vecV (if e = 0 ∧ r = s then v else vec0)), .int .i64 (if e = 0 ∧ r = s then 0 else 6)]) w) := by
  have HX := hid (((Blk.new w 44 (vecV v)).alloc (.cells (vecV vec0) 44)).alloc (.cells (vecV vec0) 44))
  have HR := hid ((Blk.new (w.alloc (.cells (vecV v) 44)) 44 (vecV vec0)).alloc (.cells (vecV vec0) 44))
  have HN := hid (Blk.new ((w.alloc (.cells (vecV v) 44)).alloc (.cells (vecV vec0) 44)) 44 (vecV vec0))
  simp only [World.size_alloc] at HR HN
  have HE := hid (((Ext.alloc w (.cells (vecV v) 44)).alloc' (.cells (vecV vec0) 44)).alloc' (.cells (vecV vec0) 44))
  have HhX := hid hv
  have HZ : Hid (vec0.length = 65) := by unfold Hid; simp [vec0]
  clear hv
  have key : ∀ (y : List Int) (z : Int), (e = 0 ∧ r = s ∧ v = y ∧ z = 0 ∨ (e != 0) = true ∧ vec0 = y ∧ z = 6 ∨ e = 0 ∧ (r.toList == s.toList) = false ∧ vec0 = y ∧ z = 6) → Calls Tryz.prog 95 #[.agg (vecV v), .string s, .func (.func 34) #[] #[]] w (Ret (.tuple #[.agg (vecV y), .int .i64 z]) w) := by
    rintro y z (⟨rfl, rfl, rfl, rfl⟩ | ⟨d0, rfl, rfl⟩ | ⟨rfl, d1, rfl, rfl⟩)
    · have d0 : (r.toList == r.toList) = true := by simp
      go_enter Tryz.func95, Tryz.ntmps95
      go_wp2_with fail
      generalize ((w.alloc (.cells (vecV v) 44)).alloc (.cells (vecV vec0) 44)).alloc (.cells (vecV vec0) 44) = w0 at HX HR HN HE ⊢
      simp only [Tryz.isAgg44, Tryz.sizeOf44, Result.andThen, ↓reduceIte, run_loadCells_blk HX.out 65 (by rw [vecV_size]; exact HhX.out)]
      rw [Oper.upon_value]
      go_wp2_with fail
      refine ((HP _ HE.out).out).mono ?_
      rintro en w1 ⟨rfl, x1⟩
      have HX1 := hid (HX.out.ext x1)
      have HR1 := hid (HR.out.ext x1)
      have HN1 := hid (HN.out.ext x1)
      have HE1 := hid (HE.out.trans x1)
      clear x1 HX HR HN HE HP
      go_wp2_with fail
      simp only [Tryz.isAgg44, Tryz.sizeOf44, Result.andThen, ↓reduceIte, run_loadCells_blk HX1.out 65 (by rw [vecV_size]; exact HhX.out)]
      rw [Oper.upon_value]
      go_wp2_with fail
      simp only [Tryz.sizeOf44, Result.andThen, ↓reduceIte, run_storeCells_blk HR1.out (by rw [vecV_size, HhX.out]; exact vec_size) (by first | rfl | (rw [vecV_size, vecV_size, HhX.out]; exact HZ.out)) (vecV_one _), show (vecV _).size = 65 from (vecV_size _).trans HhX.out]
      rw [Oper.upon_skip]
      go_wp2_with fail
      have HF := hid (HR1.out.setRow (vecV v))
      exact bodyPost_ret (results_cell_row_tmp rfl _ _ (w.heap.size + 1) 44 _ (0, 0) _ rfl HF.out Tryz.underlying44 rfl (by rw [vecV_size, HhX.out]; exact vec_size)) rfl ⟨rfl, Ext.setRow HE1.out (by omega) _⟩
    · go_enter Tryz.func95, Tryz.ntmps95
      go_wp2_with fail
      generalize ((w.alloc (.cells (vecV v) 44)).alloc (.cells (vecV vec0) 44)).alloc (.cells (vecV vec0) 44) = w0 at HX HR HN HE ⊢
      simp only [Tryz.isAgg44, Tryz.sizeOf44, Result.andThen, ↓reduceIte, run_loadCells_blk HX.out 65 (by rw [vecV_size]; exact HhX.out)]
      rw [Oper.upon_value]
      go_wp2_with fail
      refine ((HP _ HE.out).out).mono ?_
      rintro en w1 ⟨rfl, x1⟩
      have HX1 := hid (HX.out.ext x1)
      have HR1 := hid (HR.out.ext x1)
      have HN1 := hid (HN.out.ext x1)
      have HE1 := hid (HE.out.trans x1)
      clear x1 HX HR HN HE HP
      go_wp2_with fail
      simp only [Tryz.isAgg44, Tryz.sizeOf44, Result.andThen, ↓reduceIte, run_loadCells_blk HN1.out 65 (by rw [vecV_size]; exact HZ.out)]
      rw [Oper.upon_value]
      go_wp2_with fail
      simp only [Tryz.sizeOf44, Result.andThen, ↓reduceIte, run_storeCells_blk HR1.out (by rw [vecV_size, HZ.out]; exact vec_size) (by first | rfl | (rw [vecV_size, vecV_size, HZ.out]; exact HZ.out)) (vecV_one _), show (vecV _).size = 65 from (vecV_size _).trans HZ.out]
      rw [Oper.upon_skip]
      go_wp2_with fail
      have HF := hid (HR1.out.setRow (vecV vec0))
      exact bodyPost_ret (results_cell_row_tmp rfl _ _ (w.heap.size + 1) 44 _ (0, 0) _ rfl HF.out Tryz.underlying44 rfl (by rw [vecV_size, HZ.out]; exact vec_size)) rfl ⟨rfl, Ext.setRow HE1.out (by omega) _⟩
    · go_enter Tryz.func95, Tryz.ntmps95
      go_wp2_with fail
      generalize ((w.alloc (.cells (vecV v) 44)).alloc (.cells (vecV vec0) 44)).alloc (.cells (vecV vec0) 44) = w0 at HX HR HN HE ⊢
      simp only [Tryz.isAgg44, Tryz.sizeOf44, Result.andThen, ↓reduceIte, run_loadCells_blk HX.out 65 (by rw [vecV_size]; exact HhX.out)]
      rw [Oper.upon_value]
      go_wp2_with fail
      refine ((HP _ HE.out).out).mono ?_
      rintro en w1 ⟨rfl, x1⟩
      have HX1 := hid (HX.out.ext x1)
      have HR1 := hid (HR.out.ext x1)
      have HN1 := hid (HN.out.ext x1)
      have HE1 := hid (HE.out.trans x1)
      clear x1 HX HR HN HE HP
      go_wp2_with fail
      simp only [Tryz.isAgg44, Tryz.sizeOf44, Result.andThen, ↓reduceIte, run_loadCells_blk HN1.out 65 (by rw [vecV_size]; exact HZ.out)]
      rw [Oper.upon_value]
      go_wp2_with fail
      simp only [Tryz.sizeOf44, Result.andThen, ↓reduceIte, run_storeCells_blk HR1.out (by rw [vecV_size, HZ.out]; exact vec_size) (by first | rfl | (rw [vecV_size, vecV_size, HZ.out]; exact HZ.out)) (vecV_one _), show (vecV _).size = 65 from (vecV_size _).trans HZ.out]
      rw [Oper.upon_skip]
      go_wp2_with fail
      have HF := hid (HR1.out.setRow (vecV vec0))
      exact bodyPost_ret (results_cell_row_tmp rfl _ _ (w.heap.size + 1) 44 _ (0, 0) _ rfl HF.out Tryz.underlying44 rfl (by rw [vecV_size, HZ.out]; exact vec_size)) rfl ⟨rfl, Ext.setRow HE1.out (by omega) _⟩
  by_cases h0 : e = 0
  · by_cases h1 : r = s
    · rw [if_pos ⟨h0, h1⟩, if_pos ⟨h0, h1⟩]
      exact key _ _ (.inl ⟨h0, h1, rfl, rfl⟩)
    · rw [if_neg (fun h => h1 h.2), if_neg (fun h => h1 h.2)]
      exact key _ _ (.inr (.inr ⟨h0, by rw [beq_toList]; simp [h1], rfl, rfl⟩))
  · rw [if_neg (fun h => h0 h.1), if_neg (fun h => h0 h.1)]
    exact key _ _ (.inr (.inl ⟨by simp [h0], rfl, rfl⟩))
end Go.Proofs.YtmbgakjkhgdjnaaGreatDoor
namespace Go.Proofs.YtmbgakjkhgdjnaaGreatDoor
set_option linter.unusedSimpArgs false
set_option linter.unusedVariables false
open Go.RowKit

theorem max_self {z : Int} (h : 0 ≤ z) : max z 0 = z := by omega
/-- A vector that is as it counts. -/
def Clean (u : List Int) : Prop := u[0]? = some 0 ∧ ∀ z ∈ u, 0 ≤ z
theorem clean_fix {u : List Int} (h : Clean u) : cleanL u = u := by
  unfold cleanL
  have h0 : u.set 0 0 = u := by
    obtain ⟨hl, he⟩ := List.getElem?_eq_some_iff.1 h.1
    rw [← he]; exact List.set_getElem_self hl
  rw [h0]
  exact (List.map_congr_left fun z hz => max_self (h.2 z hz)).trans (List.map_id' u)
theorem clean_cleanL {v : List Int} (h : 0 < v.length) : Clean (cleanL v) := by
  constructor
  · unfold cleanL
    rw [List.getElem?_map, List.getElem?_set_self h]; rfl
  · intro z hz
    unfold cleanL at hz
    obtain ⟨y, _, rfl⟩ := List.mem_map.1 hz
    omega
def upTo (u : List Int) (k : Nat) : List Int := u.take k ++ List.replicate (65 - k) 0
theorem upTo_length {u : List Int} (hu : u.length = 65) {k : Nat} (hk : k ≤ 65) : (upTo u k).length = 65 := by
  unfold upTo
  rw [List.length_append, List.length_take, List.length_replicate]; omega
theorem upTo_next {u : List Int} (hu : u.length = 65) {k : Nat} (hk : k < 65) : (upTo u k).set k (u.getD k 0) = upTo u (k + 1) := by
  have hk' : k < u.length := by omega
  have e : u.getD k 0 = u[k] := by rw [List.getD_eq_getElem?_getD, List.getElem?_eq_getElem hk']; rfl
  have hlen : (u.take k).length = k := by rw [List.length_take]; omega
  unfold upTo
  rw [e, List.set_append_right (h := by omega), hlen, Nat.sub_self, show 65 - k = (65 - (k + 1)) + 1 by omega, List.replicate_succ, List.set_cons_zero, List.take_succ_eq_append_getElem hk', List.append_assoc]
  rfl
theorem upTo_same {u : List Int} (hu : u.length = 65) {k : Nat} (hk : k < 65) (h0 : u.getD k 0 = 0) : upTo u (k + 1) = upTo u k := by
  rw [← upTo_next hu hk, h0]
  have hlen : (u.take k).length = k := by rw [List.length_take]; omega
  unfold upTo
  rw [List.set_append_right (h := by omega), hlen, Nat.sub_self, show 65 - k = (65 - (k + 1)) + 1 by omega, List.replicate_succ, List.set_cons_zero]
theorem upTo_clean {u : List Int} (h : Clean u) (k : Nat) (hk : k ≤ 65) (hu : u.length = 65) : Clean (upTo u k) := by
  constructor
  · unfold upTo
    by_cases h0 : k = 0
    · subst h0; rw [List.take_zero, List.nil_append]; rfl
    · rw [List.getElem?_append_left (by rw [List.length_take]; omega), List.getElem?_take, if_pos (by omega)]; exact h.1
  · intro z hz
    unfold upTo at hz
    rcases List.mem_append.1 hz with hz | hz
    · exact h.2 z (List.mem_of_mem_take hz)
    · rw [(List.mem_replicate.1 hz).2]; exact Int.le_refl _
theorem upTo_at {u : List Int} {k : Nat} (hk : k < 65) (hu : u.length = 65) : (upTo u k).getD k 0 = 0 := by
  have hlen : (u.take k).length = k := by rw [List.length_take]; omega
  unfold upTo
  rw [List.getD_eq_getElem?_getD, List.getElem?_append_right (by omega), hlen, Nat.sub_self, List.getElem?_replicate]
  split <;> rfl
theorem ofL_snoc (l : List Ver) (x : Ver) : ofL (l ++ [x]) = addL (ofL l) x := by unfold ofL; rw [List.foldl_append]; rfl
theorem of_ends {u : List Int} (h : Clean u) (hu : u.length = 65) : ∀ k, k ≤ 65 → ofL (endsK u k) = upTo u k
  | 0, _ => by
    show vec0 = _
    unfold upTo vec0
    rw [List.take_zero, List.nil_append]
  | k + 1, hk => by
    have ih := of_ends h hu k (by omega)
    unfold endsK
    split
    · rename_i hp
      have hk0 : k ≠ 0 := by
        rintro rfl
        rw [List.getD_eq_getElem?_getD, h.1] at hp
        exact absurd hp (by decide)
      rw [ofL_snoc, ih]
      unfold addL
      have hr : rightV ⟨(k : Int), u.getD k 0⟩ = true := by unfold rightV; rw [decide_eq_true_eq]; dsimp only; omega
      rw [if_pos hr, clean_fix (upTo_clean h k (by omega) hu)]
      show (upTo u k).set ((k : Int).toNat) (max ((upTo u k).getD ((k : Int).toNat) 0) (u.getD k 0)) = _
      rw [Int.toNat_natCast, upTo_at (by omega) hu, show max 0 (u.getD k 0) = u.getD k 0 by omega]
      exact upTo_next hu (by omega)
    · rename_i hp
      have h0 : u.getD k 0 = 0 := by
        have h1 : 0 ≤ u.getD k 0 := getD_mem (P := fun z => 0 ≤ z) (by decide) h.2
        omega
      rw [ih, upTo_same hu (by omega) h0]
theorem of_endsL {v : List Int} (hv : v.length = 65) (h : v = cleanL v) : ofL (endsL v) = v := by
  have hc : Clean v := by rw [h]; exact clean_cleanL (by omega)
  unfold endsL
  rw [← h, of_ends hc hv 65 (by omega)]
  unfold upTo
  rw [List.take_of_length_le (by omega)]
  simp
theorem addL_in {v : List Int} {x : Ver} (h : in64L v) (hx : okVer x) : in64L (addL v x) := by
  have hc : in64L (cleanL v) := fun z hz => by
    refine ⟨?_, cleanL_le h z hz⟩
    unfold cleanL at hz
    obtain ⟨y, _, rfl⟩ := List.mem_map.1 hz
    omega
  unfold addL
  split
  · intro z hz
    rcases List.mem_or_eq_of_mem_set hz with hz | rfl
    · exact hc z hz
    · have h1 : in64 ((cleanL v).getD x.by_.toNat 0) := getD_mem (P := fun z => in64 z) (by unfold in64; omega) hc
      have h2 := hx.2.2.1
      have h3 := hx.2.2.2
      unfold in64 at *
      omega
  · exact hc
theorem ofL_in : ∀ (l : List Ver) (v : List Int), in64L v → (∀ x ∈ l, okVer x) → in64L (l.foldl addL v)
  | [], v, h, _ => h
  | x :: l, v, h, hx => ofL_in l (addL v x) (addL_in h (hx x (by simp))) (fun y hy => hx y (by simp [hy]))
theorem vec0_in : in64L vec0 := fun z hz => by rw [(List.mem_replicate.1 hz).2]; unfold in64; omega
attribute [-simp] Tryz.isAgg44 Tryz.sizeOf44
/-- Does what was read count? -/
def gotV (v : List Int) (s : ByteArray) : Prop := okZ (decide (v = cleanL v)) = 0 ∧ putB (decide (v = cleanL v)) (listB verB (endsL v)) = s
instance (v : List Int) (s : ByteArray) : Decidable (gotV v s) := by unfold gotV; exact inferInstance
set_option maxRecDepth 100000 in
set_option maxHeartbeats 4000000 in
theorem getV_x (w : World) (s : ByteArray) (hs : s.size ≤ 90000) : Calls Tryz.prog 35 #[.string s] w (fun en w' => ∃ v : List Int, v.length = 65 ∧ in64L v ∧ (∀ v0 : List Int, v0.length = 65 → in64L v0 → v0 = cleanL v0 → s = listB verB (endsL v0) → v = v0) ∧ en = .returned (.tuple #[.agg (vecV (if gotV v s then v else vec0)), .int .i64 (if gotV v s then 0 else 6)]) ∧ Ext w w') := by
  have HP := fun W => hid (partsV_c W s hs verB okVer (fun W' t ht _ => (read_c W' t (by omega)).mono fun en w' ⟨z1, z2, e, h1, h2, h3, h4, h5⟩ => ⟨⟨z1, z2⟩, e, h1, ⟨Int.natCast_nonneg _, by show (z1 : Int) ≤ _; omega, Int.natCast_nonneg _, by show (z2 : Int) ≤ _; omega⟩, h4, fun x0 a b => by
    obtain ⟨c, d⟩ := h5 x0 a b
    exact ⟨c.symm, d⟩⟩))
  have HO := fun W u l h => hid (of13_c W u l h)
  have HS := fun W v (hv : v.length = 65) (h64 : in64L v) => hid (sameV_c W v hv s _ _ (fun W' _ => hid (putV_c W' v hv h64)))
  have HR0 := hid (Blk.new w 44 (vecV vec0))
  have HE0 := hid (Ext.alloc w (.cells (vecV vec0) 44))
  clear hs
  go_enter Tryz.func35, Tryz.ntmps35
  go_wp2_with fail
  refine ((HP _).out).mono ?_
  rintro en w1 ⟨u, b, l, rfl, hrow, _, hok, x1, hback, -⟩
  have HRow := hid hrow.1
  have HR1 := hid (HR0.out.ext x1)
  have HE1 := hid (HE0.out.trans x1)
  have HOk := hid hok
  have HBk := hid hback
  clear hrow hok x1 hback HR0 HE0 HP
  go_wp2_with fail
  refine ((HO _ _ _ HRow.out).out).mono ?_
  rintro en w2 ⟨rfl, x2⟩
  have HR2 := hid (HR1.out.ext x2)
  have HE2 := hid (HE1.out.trans x2)
  have hl := ofL_length l
  have h64 : in64L (ofL l) := ofL_in l vec0 vec0_in HOk.out
  have HV : Hid (∀ v0 : List Int, v0.length = 65 → in64L v0 → v0 = cleanL v0 → s = listB verB (endsL v0) → ofL l = v0) := fun v0 a0 a1 a2 a3 => by
    rw [HBk.out (endsL v0) (endsL_ok a1) (by have := endsL_len v0; omega) a3]
    exact of_endsL a0 a2
  have HSm := HS w2 (ofL l) hl h64
  have HL := hid hl
  have H64 := hid h64
  clear HR1 HE1 x2 hl h64 HBk HOk HO HS HRow
  generalize ofL l = v at HV HSm HL H64
  go_wp2_with fail
  refine (HSm.out).mono ?_
  rintro en w3 ⟨rfl, x3⟩
  have HR3 := hid (HR2.out.ext x3)
  have HE3 := hid (HE2.out.trans x3)
  clear HR2 HE2 x3 HSm
  by_cases hc : okZ (decide (v = cleanL v)) = 0 ∧ putB (decide (v = cleanL v)) (listB verB (endsL v)) = s
  · rw [if_pos hc, if_pos hc]
    have HD : Hid (vecV (if gotV v s then v else vec0) = vecV v ∧ (if gotV v s then (0 : Int) else 6) = 0) := by have hc' : gotV v s := hc; unfold Hid; rw [if_pos hc', if_pos hc']; exact ⟨rfl, rfl⟩
    clear hc
    go_wp2_with fail
    simp only [Tryz.sizeOf44, Result.andThen, ↓reduceIte, run_storeCells_blk HR3.out (by rw [vecV_size, HL.out]; exact vec_size) (by first | rfl | (rw [vecV_size, vecV_size, HL.out]; exact (by rfl))) (vecV_one _), show (vecV _).size = 65 from (vecV_size _).trans HL.out]
    rw [Oper.upon_skip]
    go_wp2_with fail
    have HF := hid (HR3.out.setRow (vecV v))
    refine bodyPost_ret (results_cell_row_tmp rfl _ _ w.heap.size 44 _ (0, 0) _ rfl HF.out Tryz.underlying44 rfl (by rw [vecV_size, HL.out]; exact vec_size)) rfl ?_
    exact ⟨v, HL.out, H64.out, HV.out, by rw [HD.out.1, HD.out.2]; rfl, Ext.setRow HE3.out (Nat.le_refl _) _⟩
  · rw [if_neg hc, if_neg hc]
    have HD : Hid (vecV (if gotV v s then v else vec0) = vecV vec0 ∧ (if gotV v s then (0 : Int) else 6) = 6) := by have hc' : ¬ gotV v s := hc; unfold Hid; rw [if_neg hc', if_neg hc']; exact ⟨rfl, rfl⟩
    have HZ : Hid (vec0.length = 65) := by unfold Hid; simp [vec0]
    clear hc
    go_wp2_with fail
    simp only [Tryz.sizeOf44, Result.andThen, ↓reduceIte, run_storeCells_blk HR3.out (by rw [vecV_size, HZ.out]; exact vec_size) (by first | rfl | (rw [vecV_size, vecV_size, HZ.out]; exact (by rfl))) (vecV_one _), show (vecV _).size = 65 from (vecV_size _).trans HZ.out]
    rw [Oper.upon_skip]
    go_wp2_with fail
    have HF := hid (HR3.out.setRow (vecV vec0))
    refine bodyPost_ret (results_cell_row_tmp rfl _ _ w.heap.size 44 _ (0, 0) _ rfl HF.out Tryz.underlying44 rfl (by rw [vecV_size, HZ.out]; exact vec_size)) rfl ?_
    exact ⟨v, HL.out, H64.out, HV.out, by rw [HD.out.1, HD.out.2]; rfl, Ext.setRow HE3.out (Nat.le_refl _) _⟩
/-- A vector that counts comes back. -/
theorem getV_back (w : World) (v : List Int) (hv : v.length = 65) (h64 : in64L v) (hc : v = cleanL v) : Calls Tryz.prog 35 #[.string (listB verB (endsL v))] w (Ret (.tuple #[.agg (vecV v), .int .i64 0]) w) := by
  have hsz : (listB verB (endsL v)).size ≤ 90000 := by
    have := listB_len verB (endsL v) 18 65 (by decide) (endsL_len v) (by decide) (fun x hx => verB_okle (endsL_ok h64 x hx))
    rw [listB_size]; omega
  refine (getV_x w _ hsz).mono ?_
  rintro en w' ⟨x, _, _, hb, rfl, hx⟩
  obtain rfl := hb v hv h64 hc rfl
  have hg : gotV x (listB verB (endsL x)) := by
    unfold gotV
    rw [decide_eq_true hc]; exact ⟨rfl, rfl⟩
  rw [if_pos hg, if_pos hg]
  exact ⟨rfl, hx⟩
end Go.Proofs.YtmbgakjkhgdjnaaGreatDoor
