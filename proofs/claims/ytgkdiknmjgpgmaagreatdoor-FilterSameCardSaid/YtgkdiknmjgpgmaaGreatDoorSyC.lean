/-
  The document's ranges: Holds, Of, Form, Two, Same.
-/
import Derived.Test.YtgkdiknmjgpgmaaGreatDoorSyB
namespace Go.Proofs.YtgkdiknmjgpgmaaGreatDoor.Sz
open Go.RowKit

def inB (r : Rng) (n : Int) : Bool := decide (r.lo ≤ n ∧ n ≤ r.hi)
def holdsB (l : List Rng) (n : Int) : Bool := decide (0 ≤ n ∧ n ≤ 200) && l.any fun r => inB r n
theorem holdsB_iff (l : List Rng) (n : Int) : holdsB l n = true ↔ sizes l n := by
  unfold holdsB sizes memS inB inR
  simp [and_assoc]
theorem holdsB_hit {l : List Rng} {n : Int} {k : Nat} (h : k < l.length) (h0 : 0 ≤ n ∧ n ≤ 200) (hin : l[k].lo ≤ n ∧ n ≤ l[k].hi) : holdsB l n = true := (holdsB_iff l n).2 ⟨h0.1, h0.2, l[k], List.getElem_mem h, hin⟩
theorem holdsB_none {l : List Rng} {n : Int} (h : ∀ r ∈ l, ¬ (0 ≤ n ∧ n ≤ 200 ∧ r.lo ≤ n ∧ n ≤ r.hi)) : holdsB l n = false := by
  rw [Bool.eq_false_iff, Ne, holdsB_iff]
  rintro ⟨h0, h1, r, hr, h2, h3⟩
  exact h r hr ⟨h0, h1, h2, h3⟩
theorem none_take {l : List Rng} {n : Int} {k : Nat} (h : k < l.length) (hno : ∀ r ∈ l.take k, ¬ (0 ≤ n ∧ n ≤ 200 ∧ r.lo ≤ n ∧ n ≤ r.hi)) (he : ¬ (0 ≤ n ∧ n ≤ 200 ∧ l[k].lo ≤ n ∧ n ≤ l[k].hi)) : ∀ r ∈ l.take (k + 1), ¬ (0 ≤ n ∧ n ≤ 200 ∧ r.lo ≤ n ∧ n ≤ r.hi) := fun y hy => by
  rw [List.take_succ_eq_append_getElem h] at hy
  rcases List.mem_append.1 hy with hy | hy
  · exact hno y hy
  · rw [List.mem_singleton.1 hy]; exact he

set_option maxRecDepth 100000 in
set_option maxHeartbeats 2000000 in
theorem rholds_c (w : World) (v : Value) (l : List Rng) (n : Int) (h : Sl w 2 v (l.map Rng.cells)) : Calls Tryz.prog 57 #[v, .int .i64 n] w (Ret (.bool (holdsB l n)) w) := by
  obtain ⟨A, c, rfl, h1, h2, h3⟩ := sl_get h
  unfold maxLen at h2
  have R1 : Hid (∀ k (h : k < l.length), 0 ≤ n ∧ n ≤ 200 → (l[k].lo ≤ n ∧ n ≤ l[k].hi) → holdsB l n = true) := fun k => holdsB_hit
  have R2 : Hid ((∀ r ∈ l, ¬ (0 ≤ n ∧ n ≤ 200 ∧ r.lo ≤ n ∧ n ≤ r.hi)) → holdsB l n = false) := holdsB_none
  generalize holdsB l n = r at R1 R2 ⊢
  clear h
  go_enter Tryz.func57, Tryz.ntmps57
  go_wp2_with fail
  go_loopw [5] (fun i wr => ∃ k : Nat, k ≤ l.length ∧ i = .int .i64 k ∧ Ext w wr ∧ Hid (∀ y ∈ l.take k, ¬ (0 ≤ n ∧ n ≤ 200 ∧ y.lo ≤ n ∧ n ≤ y.hi))) (fun i _ => l.length - (intOf i).toNat)
  case atStart => exact ⟨0, by omega, rfl, Ext.refl _, fun y hy => by simp at hy⟩
  case round =>
    obtain ⟨k, hk, rfl, hE, hno⟩ := hrel
    by_cases hlt : k < l.length
    · obtain ⟨b, o, rfl, lb, hcell⟩ := h3 (by omega)
      have c0 := hE.cell (hcell k hlt 0 _ rfl)
      have c1 := hE.cell (hcell k hlt 1 _ rfl)
      rw [Nat.add_zero] at c0
      have lbr := Nat.lt_of_lt_of_le lb hE.size
      have HE := hid hE
      have HN2 := hid (none_take (n := n) hlt hno.out)
      have R3 := hid (R1.out k hlt)
      clear hcell h3 hE
      generalize l[k] = z at c0 c1 HN2 R3
      go_wp2_with fail
      all_goals first
        | (go_roundw
           case rel => exact ⟨k + 1, by omega, by go_num, HE.out, HN2.out (by omega)⟩
           case measure => simp [intOf]; omega)
        | (go_ret
           obtain rfl := R3.out (by omega) (by omega)
           exact ⟨rfl, HE.out⟩)
    · obtain rfl : k = l.length := by omega
      have HE := hid hE
      rw [List.take_length] at hno
      obtain rfl := R2.out hno.out
      clear hE h3 hno
      go_wp2_with fail
      go_ret
      exact ⟨rfl, HE.out⟩

def bitC (b : Bool) : List Value := [.bool b]
theorem bit_coded : Coded bitC 1 := ⟨fun _ => rfl, fun a u hu => by simp [bitC] at hu; subst hu; rfl⟩
theorem bit_info : (Tryz.prog.info? 4).map (fun i => (i.zero, i.size, i.bytes)) = some (some (.bool false), 1, 1) := by kernel_rfl
theorem bit_elem : Elem Tryz.prog 55 4 1 1 := by
  obtain ⟨i0, h0, h1, h2, h3⟩ := info_parts bit_info
  exact ⟨Tryz.underlying55, i0, _, h0, h1, h2, h3, rfl⟩
def upTo (f : Int → Bool) (k : Nat) : List Bool := (List.range k).map fun n : Nat => f (n : Int)
theorem upTo_len (f : Int → Bool) (k : Nat) : (upTo f k).length = k := by simp [upTo]
theorem upTo_succ (f : Int → Bool) (k : Nat) : upTo f (k + 1) = upTo f k ++ [f k] := by simp [upTo, List.range_succ]

set_option maxRecDepth 100000 in
set_option maxHeartbeats 2000000 in
theorem rof8_c (w : World) (v : Value) (l : List Rng) (h : Sl w 2 v (l.map Rng.cells)) : Calls Tryz.prog 40 #[v] w (RetQ (fun v' w' => Sl w' 1 v' ((upTo (holdsB l) 201).map bitC)) w) := by
  have HH := fun W (hW : Ext w W) (n : Int) => hid (rholds_c W v l n (h.ext hW))
  obtain ⟨A, c, rfl, _⟩ := sl_get h
  have HL := fun k => upTo_len (holdsB l) k
  have HS' := fun k => hid (upTo_succ (holdsB l) k)
  clear h
  go_enter Tryz.func40, Tryz.ntmps40
  go_wp2_with fail
  go_loopw [3, 4] (fun v i wr => ∃ k : Nat, k ≤ 201 ∧ i = .int .i64 k ∧ Ext w wr ∧ wr.ownsRow w.heap.size 4 1 v (upTo (holdsB l) k).length ((upTo (holdsB l) k).map bitC).flatten) (fun _ i _ => 201 - (intOf i).toNat)
  case atStart => exact ⟨0, by omega, rfl, Ext.refl _, ownsRow_nil _ _ _ _⟩
  case round =>
    obtain ⟨k, hk, rfl, hE, hO⟩ := hrel
    have HE := hid hE
    by_cases hlt : k < 201
    · have HO := hid hO
      have hlen := HL k
      have HS := HS' k
      clear hE hO HL HS'
      generalize upTo (holdsB l) k = acc at HO hlen HS
      have HHk := fun W (hW : Ext wr W) => HH W (HE.out.trans hW) k
      generalize holdsB l k = b at HS HHk
      have hacc : acc.length ≤ 1000000 := by omega
      clear hlen HH
      go_wp2_with (first
        | (go_at_call 57; refine (HHk _ (Ext.refl _)).out.mono ?_; rintro e w1 ⟨rfl, hx⟩; obtain ⟨v', w4, hrun, ho4, hk4, _⟩ := app_one (P := Tryz.prog) bit_elem bit_coded (ownsRow_ext HO.out hx) (HE.out.trans hx).size b hacc (by omega); unfold bitC at hrun; have HO4 := hid ho4; have HE4 : Hid (Ext w w4) := hk4.toExt (HE.out.trans hx) (fun q hq => (row_block HO.out q hq).1); clear ho4 hk4 hx)
        | (at_builtin; refine wpList_app rfl (.tmp 9) (.tmp 13) _ _ rfl rfl rfl hrun ?_))
      go_roundw
      case rel => exact ⟨k + 1, by omega, by go_num, HE4.out, by rw [HS.out]; exact HO4.out⟩
      case measure => simp [intOf]; omega
    · obtain rfl : k = 201 := by omega
      have HSl := hid (sl_of_row (xs := (upTo (holdsB l) 201).map bitC) (bit_coded.sizes _) (by rw [List.length_map]; exact hO))
      clear hE hO HL HS' HH
      go_wp2_with fail
      go_ret
      exact ⟨_, rfl, HSl.out, HE.out⟩

/-- The sizes of truths, one by one. -/
def setB (bs : List Bool) (n : Int) : Prop := 0 ≤ n ∧ bs[n.toNat]? = some true
structure FormAt (bs : List Bool) (k : Nat) (acc : List Rng) : Prop where
  form : IsForm acc
  mem : ∀ n, memS acc n ↔ setB bs n ∧ n < k
  last : ∀ t ∈ acc, t.hi + 1 = k → bs[k]? ≠ some true
theorem FormAt.start (bs : List Bool) : FormAt bs 0 [] := ⟨IsForm.nil, fun n => by rw [memS_nil]; unfold setB; constructor; exact False.elim; rintro ⟨⟨h, _⟩, h2⟩; omega, fun t ht => by cases ht⟩
theorem FormAt.hi {bs : List Bool} {k : Nat} {acc : List Rng} (h : FormAt bs k acc) {t : Rng} (ht : t ∈ acc) : t.hi < k := by
  have := h.form.ok t ht
  unfold Ok1 at this
  exact ((h.mem t.hi).1 ⟨t, ht, this.2.1, Int.le_refl _⟩).2
theorem FormAt.skip {bs : List Bool} {k : Nat} {acc : List Rng} (h : FormAt bs k acc) (hk : bs[k]? = some false) : FormAt bs (k + 1) acc := by
  refine ⟨h.form, fun n => ?_, fun t ht e => ?_⟩
  · rw [h.mem]
    unfold setB
    constructor
    · rintro ⟨h1, h2⟩; exact ⟨h1, by omega⟩
    · rintro ⟨⟨h0, h1⟩, h2⟩
      refine ⟨⟨h0, h1⟩, ?_⟩
      rcases Int.lt_or_le n k with h | h
      · exact h
      · have : n.toNat = k := by omega
        rw [this, hk] at h1; cases h1
  · have := h.hi ht; omega
theorem FormAt.run {bs : List Bool} {k j : Nat} {acc : List Rng} (h : FormAt bs k acc) (hl : bs.length ≤ 201) (hkj : k ≤ j) (hall : ∀ x, k ≤ x → x ≤ j → bs[x]? = some true) (hend : bs[j + 1]? ≠ some true) : FormAt bs (j + 1) (acc ++ [⟨k, j⟩]) := by
  have hj : j < bs.length := (List.getElem?_eq_some_iff.1 (hall j hkj (Nat.le_refl _))).1
  refine ⟨⟨fun t ht => ?_, List.pairwise_append.2 ⟨h.form.gap, List.pairwise_singleton _ _, fun a ha b hb => ?_⟩⟩, fun n => ?_, fun t ht e => hend⟩
  · rcases List.mem_append.1 ht with ht | ht
    · exact h.form.ok t ht
    · rw [List.mem_singleton.1 ht]
      unfold Ok1
      simp only
      omega
  · rw [List.mem_singleton.1 hb]
    have h1 := h.hi ha
    have h2 : a.hi + 1 ≠ k := fun e => h.last a ha e (hall k (Nat.le_refl _) hkj)
    simp only
    omega
  · rw [memS_append, h.mem, memS_cons, memS_nil, or_false]
    unfold setB inR
    simp only
    constructor
    · rintro (⟨h1, h2⟩ | ⟨h1, h2⟩)
      · exact ⟨h1, by omega⟩
      · exact ⟨⟨by omega, hall _ (by omega) (by omega)⟩, by omega⟩
    · rintro ⟨⟨h0, h1⟩, h2⟩
      rcases Int.lt_or_le n k with h | h
      · exact .inl ⟨⟨h0, h1⟩, h⟩
      · exact .inr ⟨h, by omega⟩
theorem FormAt.done {bs : List Bool} {acc : List Rng} (h : FormAt bs bs.length acc) : acc = nf (setB bs) := nf_is h.form fun n => by
  rw [h.mem]
  unfold setB
  constructor
  · exact fun h => h.1
  · rintro ⟨h0, h1⟩
    have := (List.getElem?_eq_some_iff.1 h1).1
    exact ⟨⟨h0, h1⟩, by omega⟩

set_option maxRecDepth 100000 in
set_option maxHeartbeats 4000000 in
theorem rform_f (w : World) (v : Value) (bs : List Bool) (h : Sl w 1 v (bs.map bitC)) (hl : bs.length ≤ 201) : Calls Tryz.prog 41 #[v] w (RetQ (fun v' w' => RowAt Rng.cells 2 (nf (setB bs)) v' w' ∧ Fresh w v') w) := by
  obtain ⟨A, c, rfl, h1, h2, h3⟩ := sl_get h
  unfold maxLen at h2
  clear h
  go_enter Tryz.func41, Tryz.ntmps41
  go_wp2_with fail
  go_loopw [3, 4] (fun v i wr => ∃ k : Nat, k ≤ bs.length ∧ i = .int .i64 k ∧ Ext w wr ∧ ∃ acc : List Rng, acc.length ≤ k ∧ (acc.length = 0 → v = .slice none 0 0) ∧ FormAt bs k acc ∧ wr.ownsRow w.heap.size 32 2 v acc.length (acc.map Rng.cells).flatten) (fun _ i _ => bs.length - (intOf i).toNat)
  case atStart => exact ⟨0, by omega, rfl, Ext.refl _, [], Nat.le_refl _, (fun _ => rfl), FormAt.start bs, ownsRow_nil _ _ _ _⟩
  case round =>
    obtain ⟨k, hk, rfl, hE, acc, hacc, hz, hF, hO⟩ := hrel
    have HE := hid hE
    have HZ := hid hz
    have HF := hid hF
    have HO := hid hO
    by_cases hlt : k < bs.length
    · obtain ⟨b, o, rfl, lb, hcell⟩ := h3 (by omega)
      have c0 := hE.cell (hcell k hlt 0 _ rfl)
      rw [Nat.add_zero, Nat.mul_one] at c0
      have HC := hid (fun (j : Nat) (hj : j < bs.length) => show wr.cell? ⟨b, o + j, none⟩ = some (.bool bs[j]) by
        have := hE.cell (hcell j hj 0 _ rfl)
        rwa [Nat.add_zero, Nat.mul_one] at this)
      have HK : Hid (bs[k]? = some bs[k]) := List.getElem?_eq_getElem hlt
      clear h3 hcell hE hz hF hO
      generalize bs[k] = x at c0 HK
      cases x with
      | false =>
        go_wp2_with fail
        go_roundw
        case rel => exact ⟨k + 1, by omega, by go_num, HE.out, acc, by omega, HZ.out, HF.out.skip HK.out, HO.out⟩
        case measure => simp [intOf]; omega
      | true =>
        go_wp2_with fail
        obtain ⟨wo, rfl⟩ : ∃ wo : World, wo = wr := ⟨_, rfl⟩
        go_loopw [4] (fun i wi => ∃ j : Nat, k ≤ j ∧ j < bs.length ∧ i = .int .i64 j ∧ wi = wo ∧ Hid (∀ x, k ≤ x → x ≤ j → bs[x]? = some true)) (fun i _ => bs.length - (intOf i).toNat)
        case atStart => exact ⟨k, Nat.le_refl _, hlt, rfl, rfl, fun x h1 h2 => by rw [show x = k by omega]; exact HK.out⟩
        case round =>
          obtain ⟨j, hkj, hj, rfl, rfl, hall⟩ := hrel
          by_cases hj1 : j + 1 < bs.length
          · have c1 := HC.out (j + 1) hj1
            have HJ : Hid (bs[j + 1]? = some bs[j + 1]) := List.getElem?_eq_getElem hj1
            rw [show o + (j + 1) = o + (j + 1) from rfl] at c1
            generalize bs[j + 1] = y at c1 HJ
            cases y with
            | true =>
              go_wp2_with fail
              go_roundw
              case rel => exact ⟨j + 1, by omega, hj1, by go_num, trivial, fun x h1 h2 => by
                by_cases e : x = j + 1
                · subst e; exact HJ.out
                · exact hall.out x h1 (by omega)⟩
              case measure => simp [intOf]; omega
            | false =>
              have HR := hid (HF.out.run hl hkj hall.out (by rw [HJ.out]; simp))
              obtain ⟨v', w4, hrun, ho4, hk4, _⟩ := app_one (P := Tryz.prog) rng_elem rng_coded HO.out HE.out.size ⟨k, j⟩ (by omega) (by omega)
              have HO4 := hid ho4
              have HE4 : Hid (Ext w w4) := hk4.toExt HE.out (fun q hq => (row_block HO.out q hq).1)
              unfold Rng.cells at hrun
              clear ho4 hk4 hall
              go_wp2_with (at_builtin; refine wpList_app rfl (.tmp 32) (.tmp 36) _ _ rfl rfl rfl hrun ?_)
              go_roundw
              case rel => exact ⟨j + 1, by omega, by go_num, HE4.out, _, by simp; omega, (fun h => by simp at h), HR.out, HO4.out⟩
              case measure => simp [intOf]; omega
          · have HR := hid (HF.out.run hl hkj hall.out (by rw [List.getElem?_eq_none (by omega)]; simp))
            obtain ⟨v', w4, hrun, ho4, hk4, _⟩ := app_one (P := Tryz.prog) rng_elem rng_coded HO.out HE.out.size ⟨k, j⟩ (by omega) (by omega)
            have HO4 := hid ho4
            have HE4 : Hid (Ext w w4) := hk4.toExt HE.out (fun q hq => (row_block HO.out q hq).1)
            unfold Rng.cells at hrun
            clear ho4 hk4 hall
            go_wp2_with (at_builtin; refine wpList_app rfl (.tmp 32) (.tmp 36) _ _ rfl rfl rfl hrun ?_)
            go_roundw
            case rel => exact ⟨j + 1, by omega, by go_num, HE4.out, _, by simp; omega, (fun h => by simp at h), HR.out, HO4.out⟩
            case measure => simp [intOf]; omega
    · obtain rfl : k = bs.length := by omega
      have HQ := hid hF.done
      have HFr : Hid (Fresh w u3) := fun b o n c e => (row_block HO.out b (by rw [e]; rfl)).1
      clear h3 hE hz hF hO
      go_wp2_with fail
      go_ret
      exact ⟨_, rfl, ⟨by rw [← HQ.out]; exact RowAt.of_row rng_coded HO.out HZ.out, HFr.out⟩, HE.out⟩
theorem rform_c (w : World) (v : Value) (bs : List Bool) (h : Sl w 1 v (bs.map bitC)) (hl : bs.length ≤ 201) : Calls Tryz.prog 41 #[v] w (RetQ (RowAt Rng.cells 2 (nf (setB bs))) w) :=
  (rform_f w v bs h hl).mono fun e w' ⟨v', he, hr, hx⟩ => ⟨v', he, hr.1, hx⟩
end Go.Proofs.YtgkdiknmjgpgmaaGreatDoor.Sz
