/-
  Numbers as flang has them: their digits, and numbers read. Plain.
  A number's digits: the document's (of FlD's text) and flang's (of FnA's).
  Numbers read: flang.number; the document's Number.
-/
import Derived.Test.YtggbkjmedoooaaaGreatDoorQdA
import Derived.Test.YtggbkjmedoooaaaGreatDoorRow
import Derived.Laws.BytesString
import Derived.Test.YtggbkjmedoooaaaGreatDoorStr
namespace Go.Proofs.YtggbkjmedoooaaaGreatDoor
set_option linter.unusedSimpArgs false
set_option linter.unusedVariables false
open Go.RowKit

/-- a digit's byte -/
def dgB (n : Nat) : UInt8 := UInt8.ofNat (48 + n)
theorem nil_append (s : ByteArray) : (⟨#[]⟩ : ByteArray) ++ s = s := by
  apply ByteArray.ext
  rw [ByteArray.data_append]; simp
def digK (n : Nat) : ByteArray := if h : n < 10 then ⟨#[dgB n]⟩ else digK (n / 10) ++ ⟨#[dgB (n % 10)]⟩
termination_by n
decreasing_by omega
theorem digK_small {n : Nat} (h : n < 10) : digK n = ⟨#[dgB n]⟩ := by rw [digK, dif_pos h]
theorem digK_big {n : Nat} (h : ¬ n < 10) : digK n = digK (n / 10) ++ ⟨#[dgB (n % 10)]⟩ := by rw [digK, dif_neg h]
theorem digK_size : ∀ (d n : Nat), n < 10 ^ (d + 1) → (digK n).size ≤ d + 1
  | 0, n, h => by rw [digK_small (by simpa using h)]; exact Nat.le_refl _
  | d + 1, n, h => by
    by_cases hn : n < 10
    · rw [digK_small hn]; show 1 ≤ _; omega
    · rw [digK_big hn, ByteArray.size_append]
      have := digK_size d (n / 10) (by rw [Nat.pow_succ] at h; omega)
      have e : (⟨#[dgB (n % 10)]⟩ : ByteArray).size = 1 := rfl
      omega
theorem digK_20 (n : Nat) (h : n ≤ 9223372036854775807) : (digK n).size ≤ 20 := digK_size 19 n (by
  have : (10 : Nat) ^ (19 + 1) = 100000000000000000000 := by decide
  omega)
theorem toList_app (a b : ByteArray) : (a ++ b).toList = a.toList ++ b.toList := by
  rw [Lib.toList_data, Lib.toList_data, Lib.toList_data, ByteArray.data_append, Array.toList_append]
theorem dg_list (n : Nat) : (⟨#[dgB n]⟩ : ByteArray).toList = [dgB n] := by rw [Lib.toList_data]
theorem dg_nat {n : Nat} (h : n < 10) : (dgB n).toNat = 48 + n := by
  unfold dgB
  rw [UInt8.toNat_ofNat']
  omega
/-- Bytes that are digits. -/
def isDg (b : UInt8) : Prop := 48 ≤ b.toNat ∧ b.toNat ≤ 57
theorem digK_bytes (n : Nat) : ∀ b ∈ (digK n).toList, isDg b := by
  induction n using Nat.strongRecOn with
  | ind n ih =>
    intro b hb
    by_cases hn : n < 10
    · rw [digK_small hn, dg_list, List.mem_singleton] at hb
      subst hb
      unfold isDg
      rw [dg_nat hn]; omega
    · rw [digK_big hn, toList_app, List.mem_append] at hb
      rcases hb with hb | hb
      · exact ih (n / 10) (by omega) b hb
      · rw [dg_list, List.mem_singleton] at hb
        subst hb
        unfold isDg
        rw [dg_nat (by omega)]; omega
/-- The number that digits are. -/
def valL (l : List UInt8) : Nat := l.foldl (fun a b => 10 * a + (b.toNat - 48)) 0
theorem valL_snoc (l : List UInt8) (b : UInt8) : valL (l ++ [b]) = 10 * valL l + (b.toNat - 48) := by simp [valL]
theorem val_dig (n : Nat) : valL (digK n).toList = n := by
  induction n using Nat.strongRecOn with
  | ind n ih =>
    by_cases hn : n < 10
    · rw [digK_small hn, dg_list]
      show 10 * 0 + ((dgB n).toNat - 48) = n
      rw [dg_nat hn]; omega
    · rw [digK_big hn, toList_app, dg_list, valL_snoc, ih (n / 10) (by omega), dg_nat (by omega)]; omega
theorem digK_inj {m n : Nat} (h : digK m = digK n) : m = n := by
  rw [← val_dig m, ← val_dig n, h]
theorem digK_ne (n : Nat) : (digK n).toList ≠ [] := by
  by_cases hn : n < 10
  · rw [digK_small hn, dg_list]; simp
  · rw [digK_big hn, toList_app, dg_list]; simp
theorem valL_mono (l r : List UInt8) : valL l ≤ valL (l ++ r) := by
  induction r generalizing l with
  | nil => simp
  | cons b r ih =>
    have h1 := ih (l ++ [b])
    rw [List.append_assoc, valL_snoc] at h1
    have h2 : l ++ ([b] ++ r) = l ++ b :: r := rfl
    rw [h2] at h1
    omega
/-- May these bytes be read to their end? Digits, and what stands ahead of each is no more than 200. -/
def okN (l : List UInt8) : Prop := ∀ k (h : k < l.length), isDg l[k] ∧ valL (l.take k) ≤ 200
instance (b : UInt8) : Decidable (isDg b) := inferInstanceAs (Decidable (_ ∧ _))
open Classical in
/-- What flang.number tells. -/
noncomputable def numG (s : ByteArray) : Nat × Bool := if okN s.toList then (valL s.toList, !s.toList.isEmpty && decide (digK (valL s.toList) = s)) else (0, false)
theorem numG_dig {n : Nat} (h : n ≤ 200) : numG (digK n) = (n, true) := by
  unfold numG
  rw [if_pos, val_dig]
  · have := digK_ne n
    simp [List.isEmpty_iff, this]
  · intro k hk
    refine ⟨digK_bytes n _ (List.getElem_mem hk), ?_⟩
    have h1 := valL_mono ((digK n).toList.take k) ((digK n).toList.drop k)
    rw [List.take_append_drop, val_dig] at h1
    omega
theorem numG_ok {s : ByteArray} {n : Nat} (h : numG s = (n, true)) : digK n = s := by
  unfold numG at h
  split at h
  · injection h with h1 h2
    simp only [Bool.and_eq_true, decide_eq_true_eq] at h2
    rw [← h1]; exact h2.2
  · injection h with _ h; cases h
open Classical in
/-- What the document's Number tells. -/
noncomputable def numR (s : ByteArray) : Int := if h : ∃ n, n ≤ 200 ∧ digK n = s then (h.choose : Int) else -1
theorem numR_dig {n : Nat} (h : n ≤ 200) : numR (digK n) = n := by
  unfold numR
  have hx : ∃ m, m ≤ 200 ∧ digK m = digK n := ⟨n, h, rfl⟩
  rw [dif_pos hx]
  rw [digK_inj hx.choose_spec.2]
theorem numR_none {s : ByteArray} (h : ∀ n, n ≤ 200 → digK n ≠ s) : numR s = -1 := by
  unfold numR
  rw [dif_neg]
  rintro ⟨n, h1, h2⟩
  exact h n h1 h2
theorem numR_pos {s : ByteArray} (h : 0 ≤ numR s) : ∃ n : Nat, n ≤ 200 ∧ digK n = s ∧ numR s = n := by
  by_cases hx : ∃ m, m ≤ 200 ∧ digK m = s
  · obtain ⟨m, h1, h2⟩ := hx
    exact ⟨m, h1, h2, by rw [← h2, numR_dig h1]⟩
  · rw [numR_none fun n h1 h2 => hx ⟨n, h1, h2⟩] at h
    omega
end Go.Proofs.YtggbkjmedoooaaaGreatDoor
namespace Go.Proofs.YtggbkjmedoooaaaGreatDoor
set_option linter.unusedSimpArgs false
set_option linter.unusedVariables false
open Go.RowKit

theorem conv_one (w : World) (z : Int) : (convert 59 9 (.slice (some ⟨w.heap.size, 0, none⟩) 1 1)).run Tryz.prog (w.alloc (.cells #[.int .u8 z] 5)) = .ok (.string ⟨#[UInt8.ofNat z.toNat]⟩) (w.alloc (.cells #[.int .u8 z] 5)) := by
  rw [run_convert_bytes_string _ _ _ 5 _ _ _ Tryz.underlying59 Tryz.underlying5 Tryz.underlying9]
  rw [run_bytesToString _ _ _ _ [z] (by simp [go_sem])]
  rfl
set_option maxRecDepth 100000 in
set_option maxHeartbeats 1000000 in
theorem rdigits_c : ∀ (n : Nat) (w : World), n ≤ 9223372036854775807 → Calls Tryz.prog 39 #[.int .i64 n] w (Ret (.string (digK n)) w) := by
  intro n
  induction n using Nat.strongRecOn with
  | ind n ih =>
    intro w h
    by_cases hn : n < 10
    · have d0 : decide ((10 : Int) ≤ (n : Int)) = false := by simp; omega
      have hc := fun W => conv_one W (48 + (n : Int) % 10)
      have e : (48 + (n : Int) % 10).toNat = 48 + n := by omega
      rw [e] at hc
      have HC : ∀ W : World, _ = Result.ok (Value.string ⟨#[dgB n]⟩) _ := fun W => hc W
      rw [digK_small hn]
      clear e hc
      generalize dgB n = z at HC ⊢
      go_enter Tryz.func39, Tryz.ntmps39
      go_wp2_with fail
      go_ret
      exact ⟨by rw [← nil_append ⟨#[z]⟩]; rfl, Ext.alloc _ _⟩
    · have d0 : decide ((10 : Int) ≤ (n : Int)) = true := by simp; omega
      have hc := fun W => conv_one W (48 + (n : Int) % 10)
      have e : (48 + (n : Int) % 10).toNat = 48 + n % 10 := by omega
      rw [e] at hc
      have hsz := digK_20 (n / 10) (by omega)
      have HI := hid (ih (n / 10) (by omega) w (by omega))
      have HC : ∀ W : World, _ = Result.ok (Value.string ⟨#[dgB (n % 10)]⟩) _ := fun W => hc W
      rw [digK_big hn]
      have e2 : ((n / 10 : Nat) : Int) = (n : Int) / 10 := by omega
      rw [e2] at HI
      clear e e2 ih hc
      generalize dgB (n % 10) = z at HC ⊢
      generalize digK (n / 10) = t at HI hsz ⊢
      go_enter Tryz.func39, Tryz.ntmps39
      go_wp2_with (go_at_call 39; refine (HI.out).mono ?_; rintro e w2 ⟨rfl, hx⟩; have HX := hid hx; clear hx)
      go_ret
      exact ⟨rfl, HX.out.trans (Ext.alloc _ _)⟩
theorem ten_at : ∀ n : Nat, n < 10 → (⟨#[48, 49, 50, 51, 52, 53, 54, 55, 56, 57]⟩ : ByteArray).extract n (n + 1) = ⟨#[dgB n]⟩ := by decide
theorem ten_run (n : Nat) (h : n < 10) (w : World) : (Instr.slice 9 (.string ⟨#[48, 49, 50, 51, 52, 53, 54, 55, 56, 57]⟩) (some (.int .i64 n)) (some (.int .i64 (n + 1))) none).run Tryz.prog w = .ok (.string ⟨#[dgB n]⟩) w := by
  have e := run_slice_string (P := Tryz.prog) w 9 ⟨#[48, 49, 50, 51, 52, 53, 54, 55, 56, 57]⟩ .i64 .i64 (n : Int) ((n : Int) + 1) Tryz.underlying9 (by omega) (by omega) (by show (n : Int) + 1 ≤ 10; omega)
  rw [e]
  rw [show ((n : Int)).toNat = n by omega, show ((n : Int) + 1).toNat = n + 1 by omega, ten_at n h]
set_option maxRecDepth 100000 in
set_option maxHeartbeats 1000000 in
theorem fdigits_c : ∀ (n : Nat) (w : World), n ≤ 9223372036854775807 → Calls Tryz.prog 31 #[.int .i64 n] w (Ret (.string (digK n)) w) := by
  intro n
  induction n using Nat.strongRecOn with
  | ind n ih =>
    intro w h
    by_cases hn : n < 10
    · have d0 : decide ((n : Int) < 10) = true := by simp; omega
      rw [digK_small hn]
      have hx := fun W => ten_run n hn W
      go_enter Tryz.func31, Tryz.ntmps31
      go_wp2_with fail
      go_ret
      exact ⟨rfl, Ext.refl _⟩
    · have d0 : decide ((n : Int) < 10) = false := by simp; omega
      have hx := fun W => ten_run (n % 10) (by omega) W
      have hsz := digK_20 (n / 10) (by omega)
      have HI := fun W => hid (ih (n / 10) (by omega) W (by omega))
      rw [digK_big hn]
      have e1 : ((n / 10 : Nat) : Int) = (n : Int) / 10 := by omega
      have e2 : ((n % 10 : Nat) : Int) = (n : Int) % 10 := by omega
      rw [e1] at HI
      simp only [e2] at hx
      clear ih
      generalize dgB (n % 10) = z at hx ⊢
      generalize digK (n / 10) = t at HI hsz ⊢
      go_enter Tryz.func31, Tryz.ntmps31
      go_wp2_with fail
      refine wp_region_any_order (by kernel_rfl) (by kernel_rfl) (by kernel_rfl) ?_
      repeat (first
        | (refine AWq.val rfl rfl rfl rfl (fun K hK => ?_); go_big_quiet_op; refine hK _ ?_; clear hK K)
        | (refine AWq.skip rfl rfl rfl ?_; simp only [Act.put, List.setIfInBounds_toArray, List.set_cons_succ, List.set_cons_zero])
        | (refine AWq.call rfl Tryz.func31 (by kernel_rfl) (by kernel_rfl) rfl rfl rfl ?_; apply Exists.intro; refine And.intro (fun wc hc => ?_) ?_; (· (simp only [argsOf, anyAt, ↓reduceIte, Nat.reduceEqDiff, Array.getD_eq_getD_getElem?, List.getElem?_toArray, List.getElem?_cons_succ, List.getElem?_cons_zero, Option.getD_some]; with_reducible exact (HI _).out)); simp only [Act.put, List.setIfInBounds_toArray, List.set_cons_succ, List.set_cons_zero]))
      refine AWq.done rfl rfl rfl (fun w2 x2 => ?_)
      simp only [closeAny, Act.put, List.setIfInBounds_toArray, List.set_cons_succ, List.set_cons_zero]
      go_wp2_with fail
      go_ret
      exact ⟨rfl, x2⟩
end Go.Proofs.YtggbkjmedoooaaaGreatDoor
namespace Go.Proofs.YtggbkjmedoooaaaGreatDoor
set_option linter.unusedSimpArgs false
set_option linter.unusedVariables false
open Go.RowKit

theorem take_byte (s : ByteArray) (k : Nat) (h : k < s.size) : s.toList.take (k + 1) = s.toList.take k ++ [s[k]] := by
  have hl : k < s.toList.length := by rw [size_toList]; exact h
  rw [List.take_succ_eq_append_getElem hl]
  congr 2
  have := get_toList s k h
  rw [List.getElem?_eq_getElem hl] at this
  injection this
theorem byte_at (s : ByteArray) (k : Nat) (h : k < s.size) (hl : k < s.toList.length) : s.toList[k] = s[k] := by
  have := get_toList s k h
  rw [List.getElem?_eq_getElem hl] at this
  injection this
theorem numG_no {s : ByteArray} {k : Nat} (h : k < s.size) (hb : ¬ isDg s[k] ∨ 200 < valL (s.toList.take k)) : numG s = (0, false) := by
  unfold numG
  rw [if_neg]
  intro hok
  have hl : k < s.toList.length := by rw [size_toList]; exact h
  obtain ⟨h1, h2⟩ := hok k hl
  rw [byte_at s k h hl] at h1
  rcases hb with hb | hb
  · exact hb h1
  · omega
theorem numG_yes {s : ByteArray} (h : okN s.toList) : numG s = (valL s.toList, !s.toList.isEmpty && decide (digK (valL s.toList) = s)) := by
  unfold numG
  rw [if_pos h]
set_option maxRecDepth 100000 in
set_option maxHeartbeats 4000000 in
theorem number_c (w : World) (s : ByteArray) (hs : s.size ≤ 100000) : Calls Tryz.prog 38 #[.string s] w (Ret (.tuple #[.int .i64 (numG s).1, .bool (numG s).2]) w) := by
  have HD := fun n (h : n ≤ 3000) W => hid (fdigits_c n W (by omega))
  have HNo := hid (fun k (h : k < s.size) hb => numG_no (s := s) (k := k) h hb)
  have HYes := hid (numG_yes (s := s))
  generalize numG s = r at HNo HYes ⊢
  go_enter Tryz.func38, Tryz.ntmps38
  go_wp2_with fail
  go_loopw [4, 8] (fun s4 s8 wr => ∃ k v : Nat, k ≤ s.size ∧ s8 = .int .i64 k ∧ s4 = .int .i64 v ∧ v ≤ 2100 ∧ Hid (v = valL (s.toList.take k)) ∧ Hid (Ext w wr) ∧ Hid (∀ j (h : j < s.toList.length), j < k → isDg s.toList[j] ∧ valL (s.toList.take j) ≤ 200)) (fun _ s8 _ => s.size - (intOf s8).toNat)
  case atStart => exact ⟨0, 0, by omega, rfl, rfl, by omega, rfl, Ext.refl _, fun j h hj => by omega⟩
  case round =>
    obtain ⟨k, v, hk, rfl, rfl, hv, hval, hE, hOk⟩ := hrel
    by_cases hlt : k < s.size
    · have e1 : decide ((k : Int) < s.size) = true := decide_eq_true (by omega)
      have e1' : decide (k < s.size) = true := decide_eq_true hlt
      have HN := hid (HNo.out k hlt)
      have HStep : Hid (valL (s.toList.take (k + 1)) = 10 * v + (s[k].toNat - 48)) := by unfold Hid; rw [take_byte s k hlt, valL_snoc, ← hval.out]
      have HB := hid (fun (hl : k < s.toList.length) => byte_at s k hlt hl)
      have hb256 : s[k].toNat < 256 := UInt8.toNat_lt _
      by_cases c1 : s[k].toNat < 48
      · have d1 : decide ((s[k].toNat : Int) < 48) = true := decide_eq_true (by omega)
        have d1' : decide (s[k].toNat < 48) = true := decide_eq_true c1
        have hr := hid (HN.out (.inl (fun h => by unfold isDg at h; omega)))
        clear HN HStep HNo HYes HB
        go_wp2_with fail
        go_ret2
        exact ⟨by rw [hr.out]; rfl, hE.out⟩
      · have d1 : decide ((s[k].toNat : Int) < 48) = false := decide_eq_false (by omega)
        have d1' : decide (s[k].toNat < 48) = false := decide_eq_false c1
        by_cases c2 : 57 < s[k].toNat
        · have d2 : decide ((57 : Int) < s[k].toNat) = true := decide_eq_true (by omega)
          have d2' : decide (57 < s[k].toNat) = true := decide_eq_true c2
          have hr := hid (HN.out (.inl (fun h => by unfold isDg at h; omega)))
          clear HN HStep HNo HYes HB
          go_wp2_with fail
          go_ret2
          exact ⟨by rw [hr.out]; rfl, hE.out⟩
        · have d2 : decide ((57 : Int) < s[k].toNat) = false := decide_eq_false (by omega)
          have d2' : decide (57 < s[k].toNat) = false := decide_eq_false c2
          by_cases c3 : 200 < v
          · have d3 : decide ((200 : Int) < v) = true := decide_eq_true (by omega)
            have d3' : decide (200 < v) = true := decide_eq_true c3
            have hr := hid (HN.out (.inr (by rw [← hval.out]; exact c3)))
            clear HN HStep HNo HYes HB
            go_wp2_with fail
            go_ret2
            exact ⟨by rw [hr.out]; rfl, hE.out⟩
          · have d3 : decide ((200 : Int) < v) = false := decide_eq_false (by omega)
            have d3' : decide (200 < v) = false := decide_eq_false c3
            have hOk2 : Hid (∀ j (h : j < s.toList.length), j < k + 1 → isDg s.toList[j] ∧ valL (s.toList.take j) ≤ 200) := fun j h hj => by
              by_cases h9 : j < k
              · exact hOk.out j h h9
              · obtain rfl : j = k := by omega
                rw [HB.out h, ← hval.out]
                exact ⟨⟨by omega, by omega⟩, by omega⟩
            clear HN HNo HYes HB
            go_wp2_with fail
            go_roundw
            case rel => exact ⟨k + 1, 10 * v + (s[k].toNat - 48), by omega, by go_num, by (congr 1; omega), by omega, HStep.out.symm, hE, hOk2⟩
            case measure => simp [intOf]; omega
    · obtain rfl : k = s.size := by omega
      have e1 : decide ((s.size : Int) < s.size) = false := decide_eq_false (by omega)
      have e1' : decide (s.size < s.size) = false := decide_eq_false (by omega)
      have hfull : s.toList.take s.size = s.toList := List.take_of_length_le (by rw [size_toList]; exact Nat.le_refl _)
      rw [hfull] at hval
      have hY := hid (HYes.out (fun j h => hOk.out j h (by rw [size_toList] at h; exact h)))
      rw [← hval.out] at hY
      have HDv := fun W => HD v (by omega) W
      have hq : ((digK v).toList == s.toList) = decide (digK v = s) := beq_toList _ _
      clear HNo HYes HD hOk hval hfull
      generalize digK v = t at HDv hY hq
      generalize decide (t = s) = bt at hY hq
      cases he : s.toList.isEmpty with
      | true =>
        rw [he] at hY
        have hr : Hid (r = (v, false)) := by rw [hY.out]; rfl
        clear hY
        go_wp2_with fail
        go_ret2
        exact ⟨by rw [hr.out]; rfl, hE.out⟩
      | false =>
        rw [he] at hY
        have hr : Hid (r = (v, bt)) := by rw [hY.out]; rfl
        clear hY
        go_wp2_with fail
        refine ((HDv _).out).mono ?_
        rintro en w2 ⟨rfl, x2⟩
        have HX := hid (hE.out.trans x2)
        clear x2
        go_wp2_with fail
        go_ret2
        exact ⟨by rw [hr.out]; rfl, HX.out⟩
set_option maxRecDepth 100000 in
set_option maxHeartbeats 4000000 in
theorem rnumber11_c (w : World) (s : ByteArray) (hs : s.size ≤ 100000) : Calls Tryz.prog 40 #[.string s] w (Ret (.int .i64 (numR s)) w) := by
  have HD := fun n (h : n ≤ 200) W => hid (rdigits_c n W (by omega))
  have HYes := hid (fun n (h : n ≤ 200) (e : digK n = s) => (by rw [← e]; exact numR_dig h : numR s = n))
  have HNo := hid (numR_none (s := s))
  generalize numR s = r at HYes HNo ⊢
  go_enter Tryz.func40, Tryz.ntmps40
  go_wp2_with fail
  go_loopw [3] (fun s3 wr => ∃ k : Nat, k ≤ 201 ∧ s3 = .int .i64 k ∧ Hid (Ext w wr) ∧ Hid (∀ j, j < k → digK j ≠ s)) (fun s3 _ => 201 - (intOf s3).toNat)
  case atStart => exact ⟨0, by omega, rfl, Ext.refl _, fun j h => by omega⟩
  case round =>
    obtain ⟨k, hk, rfl, hE, hno⟩ := hrel
    by_cases hlt : k ≤ 200
    · have e1 : decide ((k : Int) ≤ 200) = true := decide_eq_true (by omega)
      have e1' : decide (k ≤ 200) = true := decide_eq_true hlt
      have HDk := fun W => HD k hlt W
      have hq : ((digK k).toList == s.toList) = decide (digK k = s) := beq_toList _ _
      have HY := hid (HYes.out k hlt)
      have HN : Hid (digK k ≠ s → ∀ j, j < k + 1 → digK j ≠ s) := fun h j hj => by
        by_cases h9 : j < k
        · exact hno.out j h9
        · obtain rfl : j = k := by omega
          exact h
      clear HD HYes HNo hno
      generalize digK k = t at HDk hq HY HN
      by_cases ht : t = s
      · rw [decide_eq_true ht] at hq
        have hr := hid (HY.out ht)
        clear HY HN ht
        go_wp2_with fail
        refine ((HDk _).out).mono ?_
        rintro en w2 ⟨rfl, x2⟩
        have HX := hid (hE.out.trans x2)
        clear x2
        go_wp2_with fail
        go_ret
        exact ⟨by rw [hr.out]; rfl, HX.out⟩
      · rw [decide_eq_false ht] at hq
        have hn := hid (HN.out ht)
        clear HY HN ht
        go_wp2_with fail
        refine ((HDk _).out).mono ?_
        rintro en w2 ⟨rfl, x2⟩
        have HX := hid (hE.out.trans x2)
        clear x2
        go_wp2_with fail
        go_roundw
        case rel => exact ⟨k + 1, by omega, by go_num, HX, hn⟩
        case measure => simp [intOf]; omega
    · obtain rfl : k = 201 := by omega
      have hr := hid (HNo.out (fun n h => hno.out n (by omega)))
      clear HD HYes HNo hno
      go_wp2_with fail
      go_ret
      exact ⟨by rw [hr.out]; rfl, hE.out⟩
end Go.Proofs.YtggbkjmedoooaaaGreatDoor
