/-
  Light filters; few updates; the same updates.
-/
import Derived.Test.YtgkdiknmjgpgmaaDoorUpE
import Derived.Test.YtgkdiknmjgpgmaaDoorUpW
import Derived.Test.YtgkdiknmjgpgmaaDoorUpF
namespace Go.Proofs.YtgkdiknmjgpgmaaDoor
set_option linter.unusedSimpArgs false
set_option linter.unusedVariables false
open Go.RowKit Go.Sort

def lightF (f : List ClauseI) : Bool := f.all (fun c => decide (c.pre.size ≤ 100)) && decide (f.length ≤ 24)
theorem lightF_iff {f : List ClauseI} : lightF f = true ↔ LightF f ∧ f.length ≤ 24 := by
  unfold lightF LightF
  rw [Bool.and_eq_true, List.all_eq_true, decide_eq_true_eq]
  exact and_congr (forall_congr' fun c => forall_congr' fun _ => decide_eq_true_iff) Iff.rfl
theorem lightF_no {f : List ClauseI} {k : Nat} (h : k < f.length) (ht : ¬ f[k].pre.size ≤ 100) : lightF f = false := by
  rw [Bool.eq_false_iff, Ne, lightF_iff]
  rintro ⟨h1, _⟩
  exact ht (h1 _ (List.getElem_mem h))
set_option maxRecDepth 100000 in
set_option maxHeartbeats 1000000 in
theorem lightF_c (w : World) (v : Value) (f : List ClauseI) (h : Sl w 3 v (f.map ClauseI.cells)) : Calls Tryd.prog 9 #[v] w (Ret (.bool (lightF f)) w) := by
  obtain ⟨A, c, rfl, h1, h2, h3⟩ := sl_get h
  unfold maxLen at h2
  clear h
  go_enter Tryd.func9, Tryd.ntmps9
  go_wp2_with fail
  go_loopw [3] (fun i wr => ∃ k : Nat, k ≤ f.length ∧ i = .int .i64 k ∧ Ext w wr ∧ Hid (∀ j (hj : j < f.length), j < k → f[j].pre.size ≤ 100)) (fun i _ => f.length - (intOf i).toNat)
  case atStart => exact ⟨0, by omega, rfl, Ext.refl _, fun j _ hj => by omega⟩
  case round =>
    obtain ⟨k, hk, rfl, hE, hno⟩ := hrel
    have HE := hid hE
    by_cases hlt : k < f.length
    · obtain ⟨b, o, rfl, lb, hcell⟩ := h3 (by omega)
      have c0 := hE.cell (hcell k hlt 0 _ rfl)
      have c1 := hE.cell (hcell k hlt 1 _ rfl)
      have c2 := hE.cell (hcell k hlt 2 _ rfl)
      rw [Nat.add_zero] at c0
      have lbr := Nat.lt_of_lt_of_le lb hE.size
      have HF : Hid (¬ f[k].pre.size ≤ 100 → lightF f = false) := fun e => lightF_no hlt e
      have HNx : Hid (f[k].pre.size ≤ 100 → ∀ j (hj : j < f.length), j < k + 1 → f[j].pre.size ≤ 100) := fun e j hj hjk => by
        by_cases hjk' : j = k
        · subst hjk'; exact e
        · exact hno.out j hj (by omega)
      clear hcell h3 hE hno
      generalize f[k] = x at *
      by_cases hp : x.pre.size ≤ 100
      · have d0 : decide ((100 : Int) < x.pre.size) = false := by simp; omega
        have HNx := hid (HNx.out hp)
        clear HF hp
        go_wp2_with fail
        go_roundw
        case rel => exact ⟨k + 1, by omega, by go_num, HE.out, HNx.out⟩
        case measure => simp [intOf]; omega
      · have d0 : decide ((100 : Int) < x.pre.size) = true := by simp; omega
        have HF := hid (HF.out hp)
        clear HNx hp
        go_wp2_with fail
        go_ret
        exact ⟨by rw [HF.out]; rfl, HE.out⟩
    · obtain rfl : k = f.length := by omega
      have hall : LightF f := fun c hc => by
        obtain ⟨j, hj, rfl⟩ := List.getElem_of_mem hc
        exact hno.out j hj hj
      have HB : Hid (lightF f = decide (f.length ≤ 24)) := by
        unfold Hid
        rw [Bool.eq_iff_iff, lightF_iff, decide_eq_true_eq]
        exact ⟨fun h => h.2, fun h => ⟨hall, h⟩⟩
      clear hE h3 hno hall
      by_cases hl : f.length ≤ 24
      · have d1 : decide ((f.length : Int) ≤ 24) = true := by simp; omega
        have HB : Hid (lightF f = true) := by rw [HB.out]; exact decide_eq_true hl
        clear hl
        go_wp2_with fail
        go_ret
        exact ⟨by rw [HB.out]; rfl, HE.out⟩
      · have d1 : decide ((f.length : Int) ≤ 24) = false := by simp; omega
        have HB : Hid (lightF f = false) := by rw [HB.out]; exact decide_eq_false hl
        clear hl
        go_wp2_with fail
        go_ret
        exact ⟨by rw [HB.out]; rfl, HE.out⟩

theorem upd_info : (Tryd.prog.info? 28).map (fun i => (i.zero, i.size, i.bytes)) = some (some (.agg #[.int .i64 0, .int .i64 0, .int .i64 0, .int .i64 0, .int .i64 0, .string ⟨#[]⟩, .string ⟨#[]⟩, .bool false]), 8, 80) := by kernel_rfl
theorem upd_elem : Elem Tryd.prog 37 28 8 80 := by
  obtain ⟨i0, h0, h1, h2, h3⟩ := info_parts upd_info
  exact ⟨Tryd.underlying37, i0, _, h0, h1, h2, h3, rfl⟩
set_option maxRecDepth 100000 in
set_option maxHeartbeats 4000000 in
theorem few16_c (w : World) (v : Value) (l : List UpdI) (h : Sl w 8 v (l.map UpdI.cells)) : Calls Tryd.prog 16 #[v] w (RetQ (fun v' w' => ∃ bs : List UpdI, RowAt UpdI.cells 8 bs v' w' ∧ bs.length ≤ 30 ∧ ∀ u ∈ bs, lightU u = true) w) := by
  obtain ⟨A, c, rfl, h1, h2, h3⟩ := sl_get h
  unfold maxLen at h2
  clear h
  go_enter Tryd.func16, Tryd.ntmps16
  go_wp2_with fail
  go_loopw [3, 4] (fun ou i wr => ∃ (k : Nat) (bs : List UpdI), k ≤ l.length ∧ k ≤ 30 ∧ i = .int .i64 k ∧ Ext w wr ∧ bs.length ≤ k ∧ (∀ u ∈ bs, lightU u = true) ∧ (bs.length = 0 → ou = .slice none 0 0) ∧ wr.ownsRow w.heap.size 28 8 ou bs.length (bs.map UpdI.cells).flatten) (fun _ i _ => 30 - (intOf i).toNat)
  case atStart => exact ⟨0, [], by omega, by omega, rfl, Ext.refl _, by simp, by simp, (fun _ => rfl), ownsRow_nil _ _ _ _⟩
  case round =>
    obtain ⟨k, bs, hk, hk25, rfl, hE, hbl, hbf, hz, hO⟩ := hrel
    have HE := hid hE
    have HO := hid hO
    have HZ := hid hz
    have HBf := hid hbf
    by_cases hgo : k < l.length ∧ k < 30
    · obtain ⟨hlt, h25⟩ := hgo
      have d0 : decide ((k : Int) < 30) = true := by simp; omega
      obtain ⟨b, o, rfl, lb, hcell⟩ := h3 (by omega)
      have c0 := hE.cell (hcell k hlt 0 _ rfl)
      have c1 := hE.cell (hcell k hlt 1 _ rfl)
      have c2 := hE.cell (hcell k hlt 2 _ rfl)
      have c3 := hE.cell (hcell k hlt 3 _ rfl)
      have c4 := hE.cell (hcell k hlt 4 _ rfl)
      have c5 := hE.cell (hcell k hlt 5 _ rfl)
      have c6 := hE.cell (hcell k hlt 6 _ rfl)
      have c7 := hE.cell (hcell k hlt 7 _ rfl)
      rw [Nat.add_zero] at c0
      have lbr := Nat.lt_of_lt_of_le lb hE.size
      clear hcell h3 hE hz hO hbf lb
      generalize l[k] = x at c0 c1 c2 c3 c4 c5 c6 c7
      have HL := fun W => hid (light_c x W)
      unfold UpdI.val at HL
      cases hlx : lightU x with
      | false =>
        rw [hlx] at HL
        clear hlx
        go_wp2_with (go_at_call 10; refine ((HL _).out).mono ?_; rintro e w2 ⟨rfl, hx2⟩; have HX2 := hid hx2; clear hx2)
        go_roundw
        case rel => exact ⟨k + 1, bs, by omega, by omega, by go_num, HE.out.trans HX2.out, by omega, HBf.out, HZ.out, ownsRow_ext HO.out HX2.out⟩
        case measure => simp [intOf]; omega
      | true =>
        rw [hlx] at HL
        have HFx : Hid (lightU x = true) := hlx
        clear hlx
        go_wp2_with (first
          | (at_builtin; obtain ⟨v', w6, hrun6, ho6, hk6, _⟩ := app_one (P := Tryd.prog) upd_elem upd_coded (ownsRow_ext HO.out HX2.out) (Nat.le_trans HE.out.size HX2.out.size) x (by omega) (by omega); simp only [UpdI.cells] at hrun6; have HE6 := hid (hk6.toExt (HE.out.trans HX2.out) (fun q hq => (row_block HO.out q hq).1)); have HO6 := hid ho6; have HB6 : Hid (∀ u ∈ bs ++ [x], lightU u = true) := (fun u hu => (List.mem_append.1 hu).elim (HBf.out u) (fun hu => by rw [List.mem_singleton.1 hu]; exact HFx.out)); clear ho6 hk6; refine wpList_app rfl (.tmp 20) (.tmp 25) _ _ rfl rfl rfl hrun6 ?_)
          | (go_at_call 10; refine ((HL _).out).mono ?_; rintro e w2 ⟨rfl, hx2⟩; have HX2 := hid hx2; have f0 := hx2.cell c0; have f1 := hx2.cell c1; have f2 := hx2.cell c2; have f3 := hx2.cell c3; have f4 := hx2.cell c4; have f5 := hx2.cell c5; have f6 := hx2.cell c6; have f7 := hx2.cell c7; have lf := Nat.lt_of_lt_of_le lbr hx2.size; clear hx2 c0 c1 c2 c3 c4 c5 c6 c7 lbr))
        go_roundw
        case rel => exact ⟨k + 1, bs ++ [x], by omega, by omega, by go_num, HE6.out, by simp; omega, HB6.out, (fun h => by simp at h), HO6.out⟩
        case measure => simp [intOf]; omega
    · have hrow := RowAt.of_row upd_coded hO hz
      have HR := hid hrow
      clear hE h3 hz hO hbf hrow HO HZ
      by_cases hh : k < l.length
      · have d0 : decide (k < l.length) = true := decide_eq_true hh
        have d1 : decide ((k : Int) < 30) = false := by simp; omega
        clear hgo
        go_wp2_with fail
        go_ret
        exact ⟨_, rfl, ⟨bs, HR.out, by omega, HBf.out⟩, HE.out⟩
      · have d0 : decide (k < l.length) = false := decide_eq_false hh
        clear hgo
        go_wp2_with fail
        go_ret
        exact ⟨_, rfl, ⟨bs, HR.out, by omega, HBf.out⟩, HE.out⟩
theorem run_eqs_upd (a b c d e : Int) (p q : ByteArray) (f : Bool) (w : World) : (Op.equalIn 10000 28 (.agg #[.int .i64 a, .int .i64 b, .int .i64 c, .int .i64 d, .int .i64 e, .string p, .string q, .bool f]) (.agg #[.int .i64 a, .int .i64 b, .int .i64 c, .int .i64 d, .int .i64 e, .string p, .string q, .bool f])).run Tryd.prog w = .ok true w := by
  simp [go_sem]
attribute [go_sem 2000] run_eqs_upd
set_option maxRecDepth 100000 in
set_option maxHeartbeats 1000000 in
theorem usame_c (w : World) (u v : Value) (l : List UpdI) (hu : Sl w 8 u (l.map UpdI.cells)) (hv : Sl w 8 v (l.map UpdI.cells)) : Calls Tryd.prog 19 #[u, v] w (Ret (.bool true) w) := by
  obtain ⟨A, c, rfl, h1, h2, h3⟩ := sl_get hu
  obtain ⟨B, d, rfl, k1, k2, k3⟩ := sl_get hv
  clear hu hv
  unfold maxLen at h2 k2
  go_enter Tryd.func19, Tryd.ntmps19
  go_wp2_with fail
  go_loopw [5] (fun i wr => ∃ k : Nat, k ≤ l.length ∧ i = .int .i64 k ∧ Ext w wr) (fun i _ => l.length - (intOf i).toNat)
  case atStart => exact ⟨0, by omega, rfl, Ext.refl _⟩
  case round =>
    obtain ⟨k, hk, rfl, hE⟩ := hrel
    by_cases hlt : k < l.length
    · obtain ⟨b, o, rfl, lb, hcell⟩ := h3 (by omega)
      obtain ⟨b', o', rfl, lb', hcell'⟩ := k3 (by omega)
      have c0 := hE.cell (hcell k hlt 0 _ rfl)
      have c1 := hE.cell (hcell k hlt 1 _ rfl)
      have c2 := hE.cell (hcell k hlt 2 _ rfl)
      have c3 := hE.cell (hcell k hlt 3 _ rfl)
      have c4 := hE.cell (hcell k hlt 4 _ rfl)
      have c5 := hE.cell (hcell k hlt 5 _ rfl)
      have c6 := hE.cell (hcell k hlt 6 _ rfl)
      have c7 := hE.cell (hcell k hlt 7 _ rfl)
      have d0 := hE.cell (hcell' k hlt 0 _ rfl)
      have d1 := hE.cell (hcell' k hlt 1 _ rfl)
      have d2 := hE.cell (hcell' k hlt 2 _ rfl)
      have d3 := hE.cell (hcell' k hlt 3 _ rfl)
      have d4 := hE.cell (hcell' k hlt 4 _ rfl)
      have d5 := hE.cell (hcell' k hlt 5 _ rfl)
      have d6 := hE.cell (hcell' k hlt 6 _ rfl)
      have d7 := hE.cell (hcell' k hlt 7 _ rfl)
      rw [Nat.add_zero] at c0 d0
      have HE := hid hE
      clear hcell hcell' h3 k3 hE
      generalize l[k] = x at *
      go_wp2_with fail
      go_quiet (fail)
      go_wp2_with fail
      exact ⟨⟨k + 1, by omega, by go_num, HE.out.drewN' _⟩, by simp [intOf]; omega⟩
    · have HE := hid hE
      clear hE h3 k3
      go_wp2_with fail
      go_ret
      exact ⟨rfl, HE.out⟩
end Go.Proofs.YtgkdiknmjgpgmaaDoor
