/-
  pack.GetVec.
-/
import Derived.Test.YtanflgipdiogaaaVcLk
import Derived.Test.YtanflgipdiogaaaVcJk
namespace Go.Proofs.Ytanflgipdiogaaa
set_option linter.unusedSimpArgs false
set_option linter.unusedVariables false
open Go.RowKit

theorem max_self {z : Int} (h : 0 ≤ z) : max z 0 = z := by omega
/-- A vector that is as it counts. -/
def Clean (u : List Int) : Prop := u[0]? = some 0 ∧ ∀ z ∈ u, 0 ≤ z
theorem clean_fix {u : List Int} (h : Clean u) : cleanL u = u := by
  unfold cleanL
  have h0 : u.set 0 0 = u := by
    obtain ⟨hl, he⟩ := List.getElem?_eq_some_iff.1 h.1
    rw [← he]; exact List.set_getElem_self hl
  rw [h0]
  exact (List.map_congr_left fun z hz => max_self (h.2 z hz)).trans (List.map_id' u)
theorem clean_cleanL {v : List Int} (h : 0 < v.length) : Clean (cleanL v) := by
  constructor
  · unfold cleanL
    rw [List.getElem?_map, List.getElem?_set_self h]; rfl
  · intro z hz
    unfold cleanL at hz
    obtain ⟨y, _, rfl⟩ := List.mem_map.1 hz
    omega
def upTo (u : List Int) (k : Nat) : List Int := u.take k ++ List.replicate (65 - k) 0
theorem upTo_length {u : List Int} (hu : u.length = 65) {k : Nat} (hk : k ≤ 65) : (upTo u k).length = 65 := by
  unfold upTo
  rw [List.length_append, List.length_take, List.length_replicate]; omega
theorem upTo_next {u : List Int} (hu : u.length = 65) {k : Nat} (hk : k < 65) : (upTo u k).set k (u.getD k 0) = upTo u (k + 1) := by
  have hk' : k < u.length := by omega
  have e : u.getD k 0 = u[k] := by rw [List.getD_eq_getElem?_getD, List.getElem?_eq_getElem hk']; rfl
  have hlen : (u.take k).length = k := by rw [List.length_take]; omega
  unfold upTo
  rw [e, List.set_append_right (h := by omega), hlen, Nat.sub_self, show 65 - k = (65 - (k + 1)) + 1 by omega, List.replicate_succ, List.set_cons_zero, List.take_succ_eq_append_getElem hk', List.append_assoc]
  rfl
theorem upTo_same {u : List Int} (hu : u.length = 65) {k : Nat} (hk : k < 65) (h0 : u.getD k 0 = 0) : upTo u (k + 1) = upTo u k := by
  rw [← upTo_next hu hk, h0]
  have hlen : (u.take k).length = k := by rw [List.length_take]; omega
  unfold upTo
  rw [List.set_append_right (h := by omega), hlen, Nat.sub_self, show 65 - k = (65 - (k + 1)) + 1 by omega, List.replicate_succ, List.set_cons_zero]
theorem upTo_clean {u : List Int} (h : Clean u) (k : Nat) (hk : k ≤ 65) (hu : u.length = 65) : Clean (upTo u k) := by
  constructor
  · unfold upTo
    by_cases h0 : k = 0
    · subst h0; rw [List.take_zero, List.nil_append]; rfl
    · rw [List.getElem?_append_left (by rw [List.length_take]; omega), List.getElem?_take, if_pos (by omega)]; exact h.1
  · intro z hz
    unfold upTo at hz
    rcases List.mem_append.1 hz with hz | hz
    · exact h.2 z (List.mem_of_mem_take hz)
    · rw [(List.mem_replicate.1 hz).2]; exact Int.le_refl _
theorem upTo_at {u : List Int} {k : Nat} (hk : k < 65) (hu : u.length = 65) : (upTo u k).getD k 0 = 0 := by
  have hlen : (u.take k).length = k := by rw [List.length_take]; omega
  unfold upTo
  rw [List.getD_eq_getElem?_getD, List.getElem?_append_right (by omega), hlen, Nat.sub_self, List.getElem?_replicate]
  split <;> rfl
theorem ofL_snoc (l : List Ver) (x : Ver) : ofL (l ++ [x]) = addL (ofL l) x := by unfold ofL; rw [List.foldl_append]; rfl
theorem of_ends {u : List Int} (h : Clean u) (hu : u.length = 65) : ∀ k, k ≤ 65 → ofL (endsK u k) = upTo u k
  | 0, _ => by
    show vec0 = _
    unfold upTo vec0
    rw [List.take_zero, List.nil_append]
  | k + 1, hk => by
    have ih := of_ends h hu k (by omega)
    unfold endsK
    split
    · rename_i hp
      have hk0 : k ≠ 0 := by
        rintro rfl
        rw [List.getD_eq_getElem?_getD, h.1] at hp
        exact absurd hp (by decide)
      rw [ofL_snoc, ih]
      unfold addL
      have hr : rightV ⟨(k : Int), u.getD k 0⟩ = true := by unfold rightV; rw [decide_eq_true_eq]; dsimp only; omega
      rw [if_pos hr, clean_fix (upTo_clean h k (by omega) hu)]
      show (upTo u k).set ((k : Int).toNat) (max ((upTo u k).getD ((k : Int).toNat) 0) (u.getD k 0)) = _
      rw [Int.toNat_natCast, upTo_at (by omega) hu, show max 0 (u.getD k 0) = u.getD k 0 by omega]
      exact upTo_next hu (by omega)
    · rename_i hp
      have h0 : u.getD k 0 = 0 := by
        have h1 : 0 ≤ u.getD k 0 := getD_mem (P := fun z => 0 ≤ z) (by decide) h.2
        omega
      rw [ih, upTo_same hu (by omega) h0]
theorem of_endsL {v : List Int} (hv : v.length = 65) (h : v = cleanL v) : ofL (endsL v) = v := by
  have hc : Clean v := by rw [h]; exact clean_cleanL (by omega)
  unfold endsL
  rw [← h, of_ends hc hv 65 (by omega)]
  unfold upTo
  rw [List.take_of_length_le (by omega)]
  simp
theorem addL_in {v : List Int} {x : Ver} (h : in64L v) (hx : okVer x) : in64L (addL v x) := by
  have hc : in64L (cleanL v) := fun z hz => by
    refine ⟨?_, cleanL_le h z hz⟩
    unfold cleanL at hz
    obtain ⟨y, _, rfl⟩ := List.mem_map.1 hz
    omega
  unfold addL
  split
  · intro z hz
    rcases List.mem_or_eq_of_mem_set hz with hz | rfl
    · exact hc z hz
    · have h1 : in64 ((cleanL v).getD x.by_.toNat 0) := getD_mem (P := fun z => in64 z) (by unfold in64; omega) hc
      have h2 := hx.2.2.1
      have h3 := hx.2.2.2
      unfold in64 at *
      omega
  · exact hc
theorem ofL_in : ∀ (l : List Ver) (v : List Int), in64L v → (∀ x ∈ l, okVer x) → in64L (l.foldl addL v)
  | [], v, h, _ => h
  | x :: l, v, h, hx => ofL_in l (addL v x) (addL_in h (hx x (by simp))) (fun y hy => hx y (by simp [hy]))
theorem vec0_in : in64L vec0 := fun z hz => by rw [(List.mem_replicate.1 hz).2]; unfold in64; omega
attribute [-simp] Try.isAgg23 Try.sizeOf23
/-- Does what was read count? -/
def gotV (v : List Int) (s : ByteArray) : Prop := okZ (decide (v = cleanL v)) = 0 ∧ putB (decide (v = cleanL v)) (listB verB (endsL v)) = s
instance (v : List Int) (s : ByteArray) : Decidable (gotV v s) := by unfold gotV; exact inferInstance
set_option maxRecDepth 100000 in
set_option maxHeartbeats 4000000 in
theorem getV_x (w : World) (s : ByteArray) (hs : s.size ≤ 90000) : Calls Try.prog 12 #[.string s] w (fun en w' => ∃ v : List Int, v.length = 65 ∧ in64L v ∧ (∀ v0 : List Int, v0.length = 65 → in64L v0 → v0 = cleanL v0 → s = listB verB (endsL v0) → v = v0) ∧ en = .returned (.tuple #[.agg (vecV (if gotV v s then v else vec0)), .int .i64 (if gotV v s then 0 else 6)]) ∧ Ext w w') := by
  have HP := fun W => hid (partsV_c W s hs verB okVer (fun W' t ht _ => (read_c W' t (by omega)).mono fun en w' ⟨z1, z2, e, h1, h2, h3, h4, h5⟩ => ⟨⟨z1, z2⟩, e, h1, ⟨Int.natCast_nonneg _, by show (z1 : Int) ≤ _; omega, Int.natCast_nonneg _, by show (z2 : Int) ≤ _; omega⟩, h4, fun x0 a b => by
    obtain ⟨c, d⟩ := h5 x0 a b
    exact ⟨c.symm, d⟩⟩))
  have HO := fun W u l h => hid (of13_c W u l h)
  have HS := fun W v (hv : v.length = 65) (h64 : in64L v) => hid (sameV_c W v hv s _ _ (fun W' _ => hid (putV_c W' v hv h64)))
  have HR0 := hid (Blk.new w 23 (vecV vec0))
  have HE0 := hid (Ext.alloc w (.cells (vecV vec0) 23))
  clear hs
  go_enter Try.func12, Try.ntmps12
  go_wp2_with fail
  refine ((HP _).out).mono ?_
  rintro en w1 ⟨u, b, l, rfl, hrow, _, hok, x1, hback⟩
  have HRow := hid hrow.1
  have HR1 := hid (HR0.out.ext x1)
  have HE1 := hid (HE0.out.trans x1)
  have HOk := hid hok
  have HBk := hid hback
  clear hrow hok x1 hback HR0 HE0 HP
  go_wp2_with fail
  refine ((HO _ _ _ HRow.out).out).mono ?_
  rintro en w2 ⟨rfl, x2⟩
  have HR2 := hid (HR1.out.ext x2)
  have HE2 := hid (HE1.out.trans x2)
  have hl := ofL_length l
  have h64 : in64L (ofL l) := ofL_in l vec0 vec0_in HOk.out
  have HV : Hid (∀ v0 : List Int, v0.length = 65 → in64L v0 → v0 = cleanL v0 → s = listB verB (endsL v0) → ofL l = v0) := fun v0 a0 a1 a2 a3 => by
    rw [HBk.out (endsL v0) (endsL_ok a1) (by have := endsL_len v0; omega) a3]
    exact of_endsL a0 a2
  have HSm := HS w2 (ofL l) hl h64
  have HL := hid hl
  have H64 := hid h64
  clear HR1 HE1 x2 hl h64 HBk HOk HO HS HRow
  generalize ofL l = v at HV HSm HL H64
  go_wp2_with fail
  refine (HSm.out).mono ?_
  rintro en w3 ⟨rfl, x3⟩
  have HR3 := hid (HR2.out.ext x3)
  have HE3 := hid (HE2.out.trans x3)
  clear HR2 HE2 x3 HSm
  by_cases hc : okZ (decide (v = cleanL v)) = 0 ∧ putB (decide (v = cleanL v)) (listB verB (endsL v)) = s
  · rw [if_pos hc, if_pos hc]
    have HD : Hid (vecV (if gotV v s then v else vec0) = vecV v ∧ (if gotV v s then (0 : Int) else 6) = 0) := by have hc' : gotV v s := hc; unfold Hid; rw [if_pos hc', if_pos hc']; exact ⟨rfl, rfl⟩
    clear hc
    go_wp2_with fail
    simp only [Try.sizeOf23, Result.andThen, ↓reduceIte, run_storeCells_blk HR3.out (by rw [vecV_size, HL.out]; exact vec_size) (by first | rfl | (rw [vecV_size, vecV_size, HL.out]; exact (by rfl))) (vecV_one _), show (vecV _).size = 65 from (vecV_size _).trans HL.out]
    rw [Oper.upon_skip]
    go_wp2_with fail
    have HF := hid (HR3.out.setRow (vecV v))
    refine bodyPost_ret (results_cell_row_tmp rfl _ _ w.heap.size 23 _ (0, 0) _ rfl HF.out Try.underlying23 rfl (by rw [vecV_size, HL.out]; exact vec_size)) rfl ?_
    exact ⟨v, HL.out, H64.out, HV.out, by rw [HD.out.1, HD.out.2]; rfl, Ext.setRow HE3.out (Nat.le_refl _) _⟩
  · rw [if_neg hc, if_neg hc]
    have HD : Hid (vecV (if gotV v s then v else vec0) = vecV vec0 ∧ (if gotV v s then (0 : Int) else 6) = 6) := by have hc' : ¬ gotV v s := hc; unfold Hid; rw [if_neg hc', if_neg hc']; exact ⟨rfl, rfl⟩
    have HZ : Hid (vec0.length = 65) := by unfold Hid; simp [vec0]
    clear hc
    go_wp2_with fail
    simp only [Try.sizeOf23, Result.andThen, ↓reduceIte, run_storeCells_blk HR3.out (by rw [vecV_size, HZ.out]; exact vec_size) (by first | rfl | (rw [vecV_size, vecV_size, HZ.out]; exact (by rfl))) (vecV_one _), show (vecV _).size = 65 from (vecV_size _).trans HZ.out]
    rw [Oper.upon_skip]
    go_wp2_with fail
    have HF := hid (HR3.out.setRow (vecV vec0))
    refine bodyPost_ret (results_cell_row_tmp rfl _ _ w.heap.size 23 _ (0, 0) _ rfl HF.out Try.underlying23 rfl (by rw [vecV_size, HZ.out]; exact vec_size)) rfl ?_
    exact ⟨v, HL.out, H64.out, HV.out, by rw [HD.out.1, HD.out.2]; rfl, Ext.setRow HE3.out (Nat.le_refl _) _⟩
/-- A vector that counts comes back. -/
theorem getV_back (w : World) (v : List Int) (hv : v.length = 65) (h64 : in64L v) (hc : v = cleanL v) : Calls Try.prog 12 #[.string (listB verB (endsL v))] w (Ret (.tuple #[.agg (vecV v), .int .i64 0]) w) := by
  have hsz : (listB verB (endsL v)).size ≤ 90000 := by
    have := listB_len verB (endsL v) 18 65 (by decide) (endsL_len v) (by decide) (fun x hx => verB_okle (endsL_ok h64 x hx))
    rw [listB_size]; omega
  refine (getV_x w _ hsz).mono ?_
  rintro en w' ⟨x, _, _, hb, rfl, hx⟩
  obtain rfl := hb v hv h64 hc rfl
  have hg : gotV x (listB verB (endsL x)) := by
    unfold gotV
    rw [decide_eq_true hc]; exact ⟨rfl, rfl⟩
  rw [if_pos hg, if_pos hg]
  exact ⟨rfl, hx⟩
end Go.Proofs.Ytanflgipdiogaaa
