/-
  pack.read.
-/
import Derived.Test.YtanflgipdiogaaaLbTk
import Derived.Test.YtanflgipdiogaaaVcEk
import Derived.Test.YtanflgipdiogaaaRes
import Derived.Test.YtanflgipdiogaaaAwT
namespace Go.Proofs.Ytanflgipdiogaaa
set_option linter.unusedSimpArgs false
set_option linter.unusedVariables false
open Go.RowKit

theorem verB_list {x : Ver} (h : okVer x) : (verB x).data.toList = lebL x.by_.toNat ++ (lebL x.n.toNat ++ []) := by
  unfold verB
  rw [ByteArray.data_append, Array.toList_append, numB_list h.1, numB_list h.2.2.1, List.append_nil]
theorem read_back {s s2 : ByteArray} {e2 : Int} {z1 z2 : Nat} (r : ReadV s 0 z1 z2 s2 e2) (x : Ver) (hx : okVer x) (hs : s = verB x) : x = ⟨z1, z2⟩ ∧ endK s2 e2 = 0 := by
  obtain ⟨h1, h2, h3, h4⟩ := hx
  obtain ⟨a1, a2, a3, a4⟩ := r x.by_.toNat x.n.toNat [] rfl (by omega) (by omega) (by rw [hs, verB_list ⟨h1, h2, h3, h4⟩])
  constructor
  · obtain ⟨b, n⟩ := x
    dsimp only at *
    rw [show (z1 : Int) = b by omega, show (z2 : Int) = n by omega]
  · unfold endK
    have : s2.size = 0 := by
      have h : s2.data.toList.length = s2.size := by rw [Array.length_toList]; rfl
      rw [← h, a3]; rfl
    rw [if_pos a4, if_pos this]
set_option maxRecDepth 100000 in
set_option maxHeartbeats 8000000 in
theorem read_c (w : World) (s : ByteArray) (hs : s.size ≤ 1000000) : Calls Try.prog 29 #[.string s] w (fun en w' => ∃ (z1 z2 : Nat) (e : Int), en = .returned (.tuple #[.agg #[.int .i64 z1, .int .i64 z2], .int .i64 e]) ∧ z1 < 9223372036854775808 ∧ z2 < 9223372036854775808 ∧ Ext w w' ∧ ∀ x : Ver, okVer x → s = verB x → x = ⟨z1, z2⟩ ∧ e = 0) := by
  have HO := fun W => hid (over_c W s)
  have HV := fun W q (h' : InAt W q s 0) => hid (getVer_c W q s 0 h' hs)
  have HEnd := fun W q (s' : ByteArray) (e' : Int) (h' : InAt W q s' e') => hid (end_c W q s' e' h')
  have HR0 := hid (Blk.new w 43 #[.int .i64 0, .int .i64 0])
  have HE0 := hid (Ext.alloc w (.cells #[.int .i64 0, .int .i64 0] 43))
  clear hs
  go_enter Try.func29, Try.ntmps29
  go_wp2_with fail
  refine ((HO _).out).mono ?_
  rintro en w1 ⟨v, rfl, ⟨q, rfl, hq, hI⟩, x1⟩
  have HI1 := hid hI
  have HR1 := hid (HR0.out.ext x1)
  have HE1 := hid (HE0.out.trans x1)
  rw [World.size_alloc] at hq
  have NR : Hid (¬ w.heap.size = q) := by unfold Hid; omega
  have HQ := hid hq
  clear hI x1 hq HR0 HE0 HO
  go_wp2_with fail
  refine ((HV _ _ HI1.out).out).mono ?_
  rintro en w2 ⟨z1, z2, s2, e2, rfl, hz1, hz2, k2, h2, _, r2⟩
  have Z1 := hid hz1
  have Z2 := hid hz2
  have RB := hid (fun x hx hs => read_back r2 x hx hs)
  have HR2 := hid ((HR1.out.keep k2 NR.out).alloc (.cells #[.int .i64 z1, .int .i64 z2] 43))
  have HI2 := hid (h2.ext (Ext.alloc w2 (.cells #[.int .i64 z1, .int .i64 z2] 43)))
  have HU2 := hid (Blk.new w2 43 #[.int .i64 z1, .int .i64 z2])
  have HE2 : Hid (Ext w w2) := Ext.of_below (((Keep.of_ext (S := fun g => g = q) HE1.out).trans k2).below (Nat.le_refl _) fun k hk => by have := HQ.out; omega)
  have HE3 := hid (HE2.out.alloc' (.cells #[.int .i64 z1, .int .i64 z2] 43))
  have HG : Hid (w.heap.size < w2.heap.size) := (HR1.out.keep k2 NR.out).lt
  clear hz1 hz2 k2 h2 r2 HI1 HR1 HE1 HV HE2
  go_wp2_with fail
  generalize w2.alloc (.cells #[.int .i64 z1, .int .i64 z2] 43) = w3 at HR2 HI2 HU2 HE3 ⊢
  have u0 := HU2.out.cell (i := 0) (v := .int .i64 z1) rfl
  have u1 := HU2.out.cell (i := 1) (v := .int .i64 z2) rfl
  have ul := HU2.out.lt
  refine wp_region_tail (pre := ?pre6) (tl := ?tl6) 3 ?hpre6 ?htl6 (of_decide_eq_true (by kernel_rfl)) (by kernel_rfl) (by kernel_rfl) (by kernel_rfl) (by kernel_rfl) ?_
  case hpre6 => (simp only [List.take_succ_cons, List.take_zero]; first | done | exact rfl)
  case htl6 => (simp only [List.drop_succ_cons, List.drop_zero]; first | done | exact rfl)
  repeat (first
    | (refine AWq.val rfl rfl rfl rfl (fun K hK => ?_); go_big_quiet_op; refine hK _ ?_; clear hK K)
    | (refine AWq.skip rfl rfl rfl ?_; simp only [Act.put, List.setIfInBounds_toArray, List.set_cons_succ, List.set_cons_zero])
    | (refine AWq.call rfl Try.func44 (by kernel_rfl) (by kernel_rfl) rfl rfl rfl ?_; apply Exists.intro; refine And.intro (fun wc hc => ?_) ?_; (· (simp only [argsOf, anyAt, ↓reduceIte, Nat.reduceEqDiff, Array.getD_eq_getD_getElem?, List.getElem?_toArray, List.getElem?_cons_succ, List.getElem?_cons_zero, Option.getD_some]; with_reducible exact (HEnd _ _ _ _ (HI2.out.ext hc)).out)); simp only [Act.put, List.setIfInBounds_toArray, List.set_cons_succ, List.set_cons_zero]))
  refine AWq.tail rfl rfl rfl (fun w4 x4 => ?_)
  simp only [closeAny, Act.put, List.setIfInBounds_toArray, List.set_cons_succ, List.set_cons_zero]
  clear u0 u1 ul
  have HR4 := hid (HR2.out.ext x4)
  have HE4 := hid (HE3.out.trans x4)
  have r0 := HR4.out.cell (i := 0) (v := .int .i64 0) rfl
  have r1 := HR4.out.cell (i := 1) (v := .int .i64 0) rfl
  have q0 := HR4.out.frozen 0
  have q1 := HR4.out.frozen 1
  have rl := HR4.out.lt
  clear HU2 HI2 HR2 HE3 x4 HEnd
  go_wp2_with fail
  have HF : Hid (Blk _ w.heap.size 43 #[.int .i64 z1, .int .i64 z2]) := (HR4.out.set 0 (.int .i64 z1)).set 1 (.int .i64 z2)
  refine bodyPost_ret (results_cell_row_tmp rfl _ _ w.heap.size 43 _ (0, 0) _ rfl HF.out Try.underlying43 rfl (show (Try.prog.info? 43).map (·.size) = some 2 by kernel_rfl)) rfl ?_
  exact ⟨z1, z2, endK s2 e2, rfl, Z1.out, Z2.out, (HE4.out.setCell' (p := ⟨w.heap.size, 0, none⟩) (Nat.le_refl _) _).setCell' (p := ⟨w.heap.size, 1, none⟩) (Nat.le_refl _) _, RB.out⟩
end Go.Proofs.Ytanflgipdiogaaa
