/-
  path.Parent; which prefixes cover it; filter.above.
-/
import Derived.Test.YtgkdiknmjgpgmaaGreatDoorFpB
namespace Go.Proofs.YtgkdiknmjgpgmaaGreatDoor
set_option linter.unusedSimpArgs false
set_option linter.unusedVariables false
open Go.RowKit Go.Sort

/-- the last place of a slash below k (or -1) -/
def lastK (s : ByteArray) : Nat → Int
  | 0 => -1
  | k + 1 => if s.toList[k]? = some 47 then (k : Int) else lastK s k
set_option maxRecDepth 100000 in
set_option maxHeartbeats 1000000 in
theorem lastb_c (s : ByteArray) (w : World) (hs : s.size ≤ 100000) : Calls Tryz.prog 74 #[.string s, .int .u8 47] w (fun e w' => e = .returned (.int .i64 (lastK s s.size)) ∧ w = w') := by
  go_enter Tryz.func74, Tryz.ntmps74
  go_wp2_with fail
  go_loopw [5] (fun i wr => ∃ (k : Nat) (z : Int), k ≤ s.size ∧ i = .int .i64 z ∧ z = (k : Int) - 1 ∧ lastK s s.size = lastK s k ∧ wr = w) (fun i _ => (intOf i + 1).toNat)
  case atStart => exact ⟨s.size, _, Nat.le_refl _, rfl, rfl, rfl, rfl⟩
  case round =>
    obtain ⟨k, z, hk, rfl, hz, hL, rfl⟩ := hrel
    cases k with
    | succ m =>
      obtain rfl : z = (m : Int) := by omega
      have hm : m < s.size := by omega
      have hg := get_toList s m hm
      have hstep : lastK s (m + 1) = if s.toList[m]? = some 47 then (m : Int) else lastK s m := rfl
      rw [hg] at hstep
      by_cases h47 : s[m] = 47
      · rw [if_pos (by rw [h47])] at hstep
        have HL : Hid (lastK s s.size = (m : Int)) := hL.trans hstep
        have hb : ((s[m].toNat : Int) == 47) = true := by rw [h47]; rfl
        clear hL hstep hg hz
        go_wp2_with fail
        go_ret
        exact ⟨by rw [HL.out]; rfl, rfl⟩
      · rw [if_neg (by simpa using h47)] at hstep
        have hb : ((s[m].toNat : Int) == 47) = false := by
          simp only [beq_eq_false_iff_ne, ne_eq]
          intro h
          have h5 : s[m].toNat = 47 := by omega
          exact h47 (UInt8.toNat_inj.1 h5)
        have HL : Hid (lastK s s.size = lastK s m) := hL.trans hstep
        clear hL hstep hg hz
        go_wp2_with fail
        go_roundw
        case rel => exact ⟨m, (m : Int) - 1, by omega, by go_num, rfl, HL.out, trivial⟩
        case measure => simp [intOf]
    | zero =>
      have hz0 : decide ((0 : Int) ≤ z) = false := by simp; omega
      have HL : Hid (lastK s s.size = -1) := hL
      clear hz hL
      go_wp2_with fail
      go_ret
      exact ⟨by rw [HL.out]; rfl, rfl⟩

set_option maxRecDepth 100000 in
set_option maxHeartbeats 1000000 in
theorem last_c (s : ByteArray) (w : World) (hs : s.size ≤ 100000) : Calls Tryz.prog 56 #[.string s, .string ⟨#[47]⟩] w (fun e w' => e = .returned (.int .i64 (lastK s s.size)) ∧ w = w') := by
  go_enter Tryz.func56, Tryz.ntmps56
  go_wp2_with (go_at_call 74; refine (lastb_c _ _ hs).mono ?_; rintro e w' ⟨rfl, rfl⟩)
  go_ret
  exact ⟨rfl, rfl⟩
theorem lastK_bounds (s : ByteArray) : ∀ k, -1 ≤ lastK s k ∧ lastK s k < k
  | 0 => ⟨by simp [lastK], by simp [lastK]⟩
  | k + 1 => by
    have := lastK_bounds s k
    unfold lastK
    split
    · constructor <;> omega
    · constructor <;> omega
/-- all ahead of the last name -/
def parentK (s : ByteArray) : ByteArray := s.extract 0 (lastK s s.size).toNat
set_option maxRecDepth 100000 in
set_option maxHeartbeats 1000000 in
theorem parent_c (s : ByteArray) (w : World) (hs : s.size ≤ 100000) : Calls Tryz.prog 39 #[.string s] w (fun e w' => e = .returned (.string (parentK s)) ∧ w = w') := by
  have HL := hid (last_c s w hs)
  obtain ⟨b1, b2⟩ := lastK_bounds s s.size
  unfold parentK
  generalize lastK s s.size = z at HL b1 b2
  have e : max z 0 = (z.toNat : Int) := by omega
  have hz : z.toNat ≤ s.size := by omega
  clear b1 b2
  generalize hzn : z.toNat = j at e hz
  clear hzn
  go_enter Tryz.func39, Tryz.ntmps39
  go_wp2_with (go_at_call 56; refine (HL.out).mono ?_; rintro e' w' ⟨rfl, rfl⟩)
  go_ret
  exact ⟨rfl, rfl⟩
theorem lastK_spec (s : ByteArray) : ∀ n : Nat, (∀ j : Nat, j < n → s.toList[j]? = some 47 → (j : Int) ≤ lastK s n) ∧ (∀ k : Nat, lastK s n = k → s.toList[k]? = some 47)
  | 0 => ⟨fun j hj => by omega, fun k hk => by simp [lastK] at hk⟩
  | n + 1 => by
    obtain ⟨h1, h2⟩ := lastK_spec s n
    unfold lastK
    by_cases h : s.toList[n]? = some 47
    · rw [if_pos h]
      exact ⟨fun j hj _ => by omega, fun k hk => by obtain rfl : n = k := by omega
                                                    exact h⟩
    · rw [if_neg h]
      refine ⟨fun j hj hs => ?_, h2⟩
      by_cases e : j = n
      · subst e; exact absurd hs h
      · exact h1 j (by omega) hs
theorem cov_iff2 (q s : ByteArray) : cov q s = true ↔ q.toList = [] ∨ s.toList = q.toList ∨ (s.toList.take q.toList.length = q.toList ∧ s.toList[q.toList.length]? = some 47) := by
  rw [cov_iff, snoc_pre]
theorem parent_list (p : ByteArray) : (parentK p).toList = p.toList.take (lastK p p.size).toNat := extract_toList _ _
/-- Which prefixes cover what is ahead of the last name: those that cover the path and are other ones. -/
theorem cov_parent {p : ByteArray} (hp : p.toList.isEmpty = false) (q : ByteArray) : cov q (parentK p) = (!decide (q = p) && cov q p) := by
  have hne : p.toList ≠ [] := by intro h; rw [h] at hp; cases hp
  obtain ⟨s1, s2⟩ := lastK_spec p p.size
  obtain ⟨b1, b2⟩ := lastK_bounds p p.size
  have hsz := size_toList p
  rw [Bool.eq_iff_iff, Bool.and_eq_true, Bool.not_eq_true', decide_eq_false_iff_not, cov_iff2, cov_iff2, parent_list]
  have hqp : q = p ↔ q.toList = p.toList := ⟨fun h => by rw [h], toList_inj⟩
  rw [hqp]
  generalize q.toList = Q
  generalize hz : lastK p p.size = z at s1 s2 b1 b2 ⊢
  rw [← hsz] at b2 s1
  clear hz hsz hqp hp
  generalize p.toList = P at s1 s2 b2 hne ⊢
  by_cases h0 : z < 0
  · have hz0 : z.toNat = 0 := by omega
    have hno : ∀ j : Nat, P[j]? ≠ some 47 := fun j hj => by
      obtain ⟨hjl, _⟩ := List.getElem?_eq_some_iff.1 hj
      have := s1 j hjl hj
      omega
    rw [hz0, List.take_zero]
    constructor
    · rintro (h | h | ⟨_, h⟩)
      · subst h; exact ⟨fun e => hne e.symm, .inl rfl⟩
      · subst h; exact ⟨fun e => hne e.symm, .inl rfl⟩
      · simp at h
    · rintro ⟨h1, h | h | ⟨_, h⟩⟩
      · exact .inl h
      · exact absurd h.symm h1
      · exact absurd h (hno _)
  · obtain ⟨k, rfl⟩ : ∃ k : Nat, z = k := ⟨z.toNat, by omega⟩
    have hk := s2 k rfl
    have hkl : k < P.length := by omega
    rw [Int.toNat_natCast]
    have hA : (P.take k).length = k := by rw [List.length_take]; omega
    constructor
    · rintro (h | h | ⟨h1, h2⟩)
      · subst h; exact ⟨fun e => hne e.symm, .inl rfl⟩
      · have hql : Q.length = k := by rw [← h, hA]
        refine ⟨fun e => by rw [e] at hql; omega, .inr (.inr ⟨by rw [hql]; exact h, by rw [hql]; exact hk⟩)⟩
      · rw [List.getElem?_take] at h2
        split at h2
        · rename_i hlt
          rw [List.take_take, Nat.min_eq_left (by omega)] at h1
          exact ⟨fun e => by rw [e] at hlt; omega, .inr (.inr ⟨h1, h2⟩)⟩
        · cases h2
    · rintro ⟨h1, h | h | ⟨h2, h3⟩⟩
      · exact .inl h
      · exact absurd h.symm h1
      · obtain ⟨hql, _⟩ := List.getElem?_eq_some_iff.1 h3
        have hle := s1 _ hql h3
        have hle : Q.length ≤ k := by omega
        by_cases e : Q.length = k
        · exact .inr (.inl (by rw [← e]; exact h2))
        · refine .inr (.inr ⟨?_, ?_⟩)
          · rw [List.take_take, Nat.min_eq_left hle]; exact h2
          · rw [List.getElem?_take, if_pos (by omega)]; exact h3
/-- The clauses whose prefix covers a path and is another one. -/
def abvF (f : List ClauseI) (p : ByteArray) : List ClauseI := f.filter fun c => !decide (c.pre = p) && cov c.pre p
theorem sel_parent (f : List ClauseI) {p : ByteArray} (hp : p.toList.isEmpty = false) : selR f (parentK p) = selR (abvF f p) p := by
  unfold selR abvF
  rw [List.filter_filter]
  congr 1
  refine List.filter_congr fun c _ => ?_
  rw [cov_parent hp]
  cases cov c.pre p <;> simp
theorem sel_empty (f : List ClauseI) {p : ByteArray} (hp : p.toList.isEmpty = true) : selR (abvF f p) p = [] := by
  unfold selR abvF
  rw [List.filter_filter, List.filter_eq_nil_iff.2, List.map_nil]
  intro c _
  have hp' : p.toList = [] := List.isEmpty_iff.1 hp
  have : cov c.pre p = true → c.pre = p := by
    rw [cov_iff2, hp']
    rintro (h | h | ⟨_, h⟩)
    · exact toList_inj (h.trans hp'.symm)
    · exact toList_inj (h.symm.trans hp'.symm)
    · simp at h
  by_cases h : cov c.pre p = true
  · simp [this h]
  · simp [h]
/-- What filter.above answers. -/
noncomputable def abvL (f : List ClauseI) (p : ByteArray) : List Rng := if p.toList.isEmpty then [] else nf (sizes (selR f (parentK p)))
theorem abvL_mem (f : List ClauseI) (p : ByteArray) (n : Int) : sizes (abvL f p) n ↔ sizes (selR (abvF f p) p) n := by
  unfold abvL
  cases h : p.toList.isEmpty with
  | true => rw [if_pos rfl, sel_empty f h]
  | false =>
    rw [if_neg Bool.false_ne_true, ← sel_parent f h]
    obtain ⟨h1, h2, _⟩ := nf_form (selR f (parentK p))
    rw [sizes_form h1, h2]
theorem abvL_len (f : List ClauseI) (p : ByteArray) : (abvL f p).length ≤ f.length := by
  unfold abvL
  split
  · simp
  · exact Nat.le_trans (nf_form _).2.2 (selR_len0 _ _)
theorem parent_size (p : ByteArray) : (parentK p).size ≤ p.size := by
  have h := parent_list p
  rw [← size_toList, ← size_toList, h, List.length_take]
  omega
set_option maxRecDepth 100000 in
set_option maxHeartbeats 1000000 in
theorem above_c (w : World) (v : Value) (l : List ClauseI) (p : ByteArray) (h : Sl w 3 v (l.map ClauseI.cells)) (hl : l.length ≤ 5000) (hp : p.size ≤ 1000) (hs : LightF l) : Calls Tryz.prog 22 #[v, .string p] w (RetQ (RowAt Rng.cells 2 (abvL l p)) w) := by
  have HP := fun W => hid (parent_c p W (by omega))
  have hps := parent_size p
  have HS := fun W (hW : Ext w W) => hid (fsizes_c W v l (parentK p) (h.ext hW) hl (by omega) hs)
  obtain ⟨A, c, rfl, _⟩ := sl_get h
  unfold abvL
  generalize nf (sizes (selR l (parentK p))) = r at HS ⊢
  generalize parentK p = q at HP HS hps
  clear h hs
  cases he : p.toList.isEmpty with
  | true =>
    clear HP HS
    rw [if_pos rfl]
    go_enter Tryz.func22, Tryz.ntmps22
    go_wp2_with fail
    go_ret
    exact ⟨_, rfl, RowAt.nil _, Ext.refl _⟩
  | false =>
    rw [if_neg Bool.false_ne_true]
    go_enter Tryz.func22, Tryz.ntmps22
    go_wp2_with (first
      | (go_at_call 21; refine ((HS _ (Ext.refl _)).out).mono ?_; rintro e w5 ⟨v5, rfl, hv5, hx5⟩; have HV5 := hid hv5; have HX5 := hid hx5; clear hv5 hx5)
      | (go_at_call 39; refine ((HP _).out).mono ?_; rintro e w' ⟨rfl, rfl⟩))
    go_ret
    exact ⟨_, rfl, HV5.out, HX5.out⟩
end Go.Proofs.YtgkdiknmjgpgmaaGreatDoor
