/-
  Paths: Covers, Parent, the document's Covers and Texts.
-/
import Derived.Test.YtfoafookodldfaaDoorProg
import Derived.Test.YtfoafookodldfaaDoorBase
import Derived.Test.YtfoafookodldfaaDoorStr
namespace Go.Proofs.YtfoafookodldfaaDoor
set_option linter.unusedSimpArgs false
set_option linter.unusedVariables false
open Go.RowKit

/-- the text begins so -/
def hpre (t p : ByteArray) : Bool := decide (p.size ≤ t.size) && ((t.extract 0 p.size).toList == p.toList)
set_option maxHeartbeats 1000000 in
theorem shas_c (t p : ByteArray) (w : World) (ht : t.size ≤ maxLen) (hp : p.size ≤ maxLen) : Calls Tryd.prog 25 #[.string t, .string p] w (fun e w' => e = .returned (.bool (hpre t p)) ∧ w = w') := by
  unfold hpre
  unfold maxLen at ht hp
  go_enter Tryd.func25, Tryd.ntmps25
  go_wp2
  all_goals go_ret
  all_goals simp_all
  all_goals (intros; omega)
set_option maxHeartbeats 1000000 in
theorem has_c (t p : ByteArray) (w : World) (ht : t.size ≤ maxLen) (hp : p.size ≤ maxLen) : Calls Tryd.prog 19 #[.string t, .string p] w (fun e w' => e = .returned (.bool (hpre t p)) ∧ w = w') := by
  go_enter Tryd.func19, Tryd.ntmps19
  go_wp2_with (go_at_call 25; refine (shas_c _ _ _ ht hp).mono ?_; rintro e w' ⟨rfl, rfl⟩)
  go_ret
  exact ⟨rfl, rfl⟩
/-- one path covers another one -/
def cov (p s : ByteArray) : Bool := p.toList.isEmpty || (s.toList == p.toList) || hpre s (p ++ ⟨#[47]⟩)
set_option maxHeartbeats 1000000 in
theorem pcovers_c (p s : ByteArray) (w : World) (hs : s.size ≤ maxLen) (hp : p.size + 1 ≤ maxLen) : Calls Tryd.prog 8 #[.string p, .string s] w (fun e w' => e = .returned (.bool (cov p s)) ∧ w = w') := by
  unfold cov
  have hq : (p ++ ⟨#[47]⟩ : ByteArray).size ≤ maxLen := by rw [ByteArray.size_append]; exact hp
  have hp' : p.size + 1 ≤ 9223372036854775807 := by unfold maxLen at hp; omega
  go_enter Tryd.func8, Tryd.ntmps8
  go_wp2_with (go_at_call 19; refine (has_c _ _ _ hs hq).mono ?_; rintro e w' ⟨rfl, rfl⟩)
  all_goals go_ret
  all_goals simp_all
theorem extract_toList (t : ByteArray) (n : Nat) : (t.extract 0 n).toList = t.toList.take n := by
  rw [Lib.toList_data, Lib.toList_data, ByteArray.data_extract, Array.toList_extract, List.extract_eq_take_drop, List.drop_zero, Nat.sub_zero]
theorem size_toList (t : ByteArray) : t.toList.length = t.size := by
  rw [Lib.toList_data, Array.length_toList]; rfl
theorem hpre_iff (t p : ByteArray) : hpre t p = true ↔ p.toList <+: t.toList := by
  unfold hpre
  rw [extract_toList, Bool.and_eq_true, decide_eq_true_eq, beq_iff_eq, ← size_toList p, ← size_toList t]
  constructor
  · rintro ⟨_, h⟩
    rw [← h]
    exact List.take_prefix _ _
  · intro h
    exact ⟨h.length_le, (List.prefix_iff_eq_take.1 h).symm⟩
theorem cov_iff (p s : ByteArray) : cov p s = true ↔ p.toList = [] ∨ s.toList = p.toList ∨ (p.toList ++ [47]) <+: s.toList := by
  have e : (p ++ ⟨#[47]⟩ : ByteArray).toList = p.toList ++ [47] := by
    rw [Lib.toList_data, Lib.toList_data, ByteArray.data_append, Array.toList_append]
  unfold cov
  rw [Bool.or_eq_true, Bool.or_eq_true, hpre_iff, e, List.isEmpty_iff, beq_iff_eq]
  constructor
  · rintro ((h | h) | h)
    · exact .inl h
    · exact .inr (.inl h)
    · exact .inr (.inr h)
  · rintro (h | h | h)
    · exact .inl (.inl h)
    · exact .inl (.inr h)
    · exact .inr h
theorem cov_trans {p q t : ByteArray} (h1 : cov p q = true) (h2 : cov q t = true) : cov p t = true := by
  rw [cov_iff] at *
  rcases h1 with h1 | h1 | h1
  · exact .inl h1
  · rw [h1] at h2; exact h2
  · rcases h2 with h2 | h2 | h2
    · rw [h2] at h1
      have := h1.length_le
      simp at this
    · rw [h2]; exact .inr (.inr h1)
    · exact .inr (.inr (h1.trans ((List.prefix_append _ _).trans h2)))
theorem snoc_pre {P S : List UInt8} {c : UInt8} : (P ++ [c]) <+: S ↔ S.take P.length = P ∧ S[P.length]? = some c := by
  constructor
  · rintro ⟨t, rfl⟩
    rw [List.append_assoc]
    exact ⟨List.take_left, by simp⟩
  · rintro ⟨h1, h2⟩
    obtain ⟨hlt, h3⟩ := List.getElem?_eq_some_iff.1 h2
    have h4 : S.take (P.length + 1) = P ++ [c] := by rw [List.take_succ_eq_append_getElem hlt, h1, h3]
    rw [← h4]
    exact List.take_prefix _ _
theorem get_toList (s : ByteArray) (i : Nat) (h : i < s.size) : s.toList[i]? = some s[i] := by
  rw [Lib.toList_data, Array.getElem?_toList]
  exact Array.getElem?_eq_getElem h
theorem cov_slash (p s : ByteArray) : hpre s (p ++ ⟨#[47]⟩) = true ↔ (s.extract 0 p.size).toList = p.toList ∧ s.toList[p.size]? = some 47 := by
  rw [hpre_iff, extract_toList]
  have e : (p ++ ⟨#[47]⟩ : ByteArray).toList = p.toList ++ [47] := by
    rw [Lib.toList_data, Lib.toList_data, ByteArray.data_append, Array.toList_append]
  rw [e, snoc_pre, size_toList]
theorem cov_of_empty {p s : ByteArray} (h : p.toList.isEmpty = true ∨ (p.toList == s.toList) = true) : cov p s = true := by
  unfold cov
  rcases h with h | h
  · rw [h]; rfl
  · rw [show (s.toList == p.toList) = true by simp at h ⊢; exact h.symm]; simp
theorem cov_no {p s : ByteArray} (h1 : p.toList.isEmpty = false) (h2 : (p.toList == s.toList) = false) : cov p s = hpre s (p ++ ⟨#[47]⟩) := by
  unfold cov
  rw [h1, show (s.toList == p.toList) = false by simp at h2 ⊢; exact fun h => h2 h.symm]
  rfl
theorem cov_at {p s : ByteArray} (h1 : p.toList.isEmpty = false) (h2 : (p.toList == s.toList) = false) (h3 : p.size < s.size) (h4 : (s.extract 0 p.size).toList = p.toList) : cov p s = ((s[p.size].toNat : Int) == 47) := by
  rw [cov_no h1 h2, Bool.eq_iff_iff, cov_slash, get_toList s _ h3]
  simp only [h4, true_and, Option.some.injEq, beq_iff_eq]
  constructor
  · intro h; rw [h]; rfl
  · intro h
    have h5 : s[p.size].toNat = 47 := by omega
    exact UInt8.toNat_inj.1 h5
theorem cov_off {p s : ByteArray} (h1 : p.toList.isEmpty = false) (h2 : (p.toList == s.toList) = false) (h3 : ¬ p.size < s.size ∨ ¬ (s.extract 0 p.size).toList = p.toList) : cov p s = false := by
  rw [cov_no h1 h2]
  cases hh : hpre s (p ++ ⟨#[47]⟩) with
  | false => rfl
  | true =>
    obtain ⟨a1, a2⟩ := (cov_slash p s).1 hh
    rcases h3 with h3 | h3
    · have := (List.getElem?_eq_some_iff.1 a2).1
      rw [size_toList] at this
      exact absurd this h3
    · exact absurd a1 h3
set_option maxRecDepth 100000 in
set_option maxHeartbeats 1000000 in
theorem rcovers_c (p s : ByteArray) (w : World) (hs : s.size ≤ maxLen) (hp : p.size ≤ maxLen) : Calls Tryd.prog 10 #[.string p, .string s] w (fun e w' => e = .returned (.bool (cov p s)) ∧ w = w') := by
  unfold maxLen at hs hp
  have K1 : Hid (p.toList.isEmpty = true ∨ (p.toList == s.toList) = true → cov p s = true) := cov_of_empty
  have K2 : Hid (∀ h3 : p.size < s.size, p.toList.isEmpty = false ∧ (p.toList == s.toList) = false → (s.extract 0 p.size).toList = p.toList → cov p s = ((s[p.size].toNat : Int) == 47)) := fun h3 h h4 => cov_at h.1 h.2 h3 h4
  have K3 : Hid (p.toList.isEmpty = false ∧ (p.toList == s.toList) = false → (¬ p.size < s.size ∨ ¬ (s.extract 0 p.size).toList = p.toList) → cov p s = false) := fun h h3 => cov_off h.1 h.2 h3
  generalize cov p s = z at K1 K2 K3
  go_enter Tryd.func10, Tryd.ntmps10
  go_wp2
  · obtain rfl := K1.out (.inl (by simp [*]))
    go_ret
    exact ⟨rfl, rfl⟩
  · obtain rfl := K1.out (by assumption)
    go_ret
    exact ⟨rfl, rfl⟩
  · have := K2.out (by assumption) (by assumption) (by assumption)
    go_ret
    subst this
    exact ⟨rfl, rfl⟩
  · obtain rfl := K3.out (by assumption) (.inr (by assumption))
    go_ret
    exact ⟨rfl, rfl⟩
  · obtain rfl := K3.out (by assumption) (.inl (by assumption))
    go_ret
    exact ⟨rfl, rfl⟩
/-- the last place of a slash below k (or -1) -/
def lastK (s : ByteArray) : Nat → Int
  | 0 => -1
  | k + 1 => if s.toList[k]? = some 47 then (k : Int) else lastK s k
set_option maxRecDepth 100000 in
set_option maxHeartbeats 1000000 in
theorem lastb_c (s : ByteArray) (w : World) (hs : s.size ≤ 100000) : Calls Tryd.prog 26 #[.string s, .int .u8 47] w (fun e w' => e = .returned (.int .i64 (lastK s s.size)) ∧ w = w') := by
  go_enter Tryd.func26, Tryd.ntmps26
  go_wp2_with fail
  go_loopw [5] (fun i wr => ∃ (k : Nat) (z : Int), k ≤ s.size ∧ i = .int .i64 z ∧ z = (k : Int) - 1 ∧ lastK s s.size = lastK s k ∧ wr = w) (fun i _ => (intOf i + 1).toNat)
  case atStart => exact ⟨s.size, _, Nat.le_refl _, rfl, rfl, rfl, rfl⟩
  case round =>
    obtain ⟨k, z, hk, rfl, hz, hL, rfl⟩ := hrel
    cases k with
    | succ m =>
      obtain rfl : z = (m : Int) := by omega
      have hm : m < s.size := by omega
      have hg := get_toList s m hm
      have hstep : lastK s (m + 1) = if s.toList[m]? = some 47 then (m : Int) else lastK s m := rfl
      rw [hg] at hstep
      by_cases h47 : s[m] = 47
      · rw [if_pos (by rw [h47])] at hstep
        have HL : Hid (lastK s s.size = (m : Int)) := hL.trans hstep
        have hb : ((s[m].toNat : Int) == 47) = true := by rw [h47]; rfl
        clear hL hstep hg hz
        go_wp2_with fail
        go_ret
        exact ⟨by rw [HL.out]; rfl, rfl⟩
      · rw [if_neg (by simpa using h47)] at hstep
        have hb : ((s[m].toNat : Int) == 47) = false := by
          simp only [beq_eq_false_iff_ne, ne_eq]
          intro h
          have h5 : s[m].toNat = 47 := by omega
          exact h47 (UInt8.toNat_inj.1 h5)
        have HL : Hid (lastK s s.size = lastK s m) := hL.trans hstep
        clear hL hstep hg hz
        go_wp2_with fail
        go_roundw
        case rel => exact ⟨m, (m : Int) - 1, by omega, by go_num, rfl, HL.out, trivial⟩
        case measure => simp [intOf]
    | zero =>
      have hz0 : decide ((0 : Int) ≤ z) = false := by simp; omega
      have HL : Hid (lastK s s.size = -1) := hL
      clear hz hL
      go_wp2_with fail
      go_ret
      exact ⟨by rw [HL.out]; rfl, rfl⟩
set_option maxRecDepth 100000 in
set_option maxHeartbeats 1000000 in
theorem last_c (s : ByteArray) (w : World) (hs : s.size ≤ 100000) : Calls Tryd.prog 20 #[.string s, .string ⟨#[47]⟩] w (fun e w' => e = .returned (.int .i64 (lastK s s.size)) ∧ w = w') := by
  go_enter Tryd.func20, Tryd.ntmps20
  go_wp2_with (go_at_call 26; refine (lastb_c _ _ hs).mono ?_; rintro e w' ⟨rfl, rfl⟩)
  go_ret
  exact ⟨rfl, rfl⟩
theorem lastK_bounds (s : ByteArray) : ∀ k, -1 ≤ lastK s k ∧ lastK s k < k
  | 0 => ⟨by simp [lastK], by simp [lastK]⟩
  | k + 1 => by
    have := lastK_bounds s k
    unfold lastK
    split
    · constructor <;> omega
    · constructor <;> omega
/-- all ahead of the last name -/
def parentK (s : ByteArray) : ByteArray := s.extract 0 (lastK s s.size).toNat
set_option maxRecDepth 100000 in
set_option maxHeartbeats 1000000 in
theorem parent_c (s : ByteArray) (w : World) (hs : s.size ≤ 100000) : Calls Tryd.prog 11 #[.string s] w (fun e w' => e = .returned (.string (parentK s)) ∧ w = w') := by
  have HL := hid (last_c s w hs)
  obtain ⟨b1, b2⟩ := lastK_bounds s s.size
  unfold parentK
  generalize lastK s s.size = z at HL b1 b2
  have e : max z 0 = (z.toNat : Int) := by omega
  have hz : z.toNat ≤ s.size := by omega
  clear b1 b2
  generalize hzn : z.toNat = j at e hz
  clear hzn
  go_enter Tryd.func11, Tryd.ntmps11
  go_wp2_with (go_at_call 20; refine (HL.out).mono ?_; rintro e' w' ⟨rfl, rfl⟩)
  go_ret
  exact ⟨rfl, rfl⟩
theorem lastK_spec (s : ByteArray) : ∀ k, (lastK s k = -1 ∧ ∀ j, j < k → s.toList[j]? ≠ some 47) ∨ ∃ m : Nat, m < k ∧ lastK s k = m ∧ s.toList[m]? = some 47 ∧ ∀ j, m < j → j < k → s.toList[j]? ≠ some 47
  | 0 => .inl ⟨rfl, fun j h => absurd h (by omega)⟩
  | k + 1 => by
    by_cases h47 : s.toList[k]? = some 47
    · refine .inr ⟨k, by omega, ?_, h47, fun j h1 h2 => by omega⟩
      unfold lastK; rw [if_pos h47]
    · have e : lastK s (k + 1) = lastK s k := by
        show (if s.toList[k]? = some 47 then (k : Int) else lastK s k) = _
        rw [if_neg h47]
      rw [e]
      rcases lastK_spec s k with ⟨h1, h2⟩ | ⟨m, h1, h2, h3, h4⟩
      · refine .inl ⟨h1, fun j hj => ?_⟩
        by_cases hjk : j = k
        · subst hjk; exact h47
        · exact h2 j (by omega)
      · refine .inr ⟨m, by omega, h2, h3, fun j hmj hj => ?_⟩
        by_cases hjk : j = k
        · subst hjk; exact h47
        · exact h4 j hmj (by omega)
theorem nil_toList : (⟨#[]⟩ : ByteArray).toList = [] := by rw [Lib.toList_data]
theorem extract_zero (s : ByteArray) : s.extract 0 0 = ⟨#[]⟩ := toList_inj (by rw [extract_toList, nil_toList]; rfl)
theorem empty_iff (s : ByteArray) : s.toList.isEmpty = true ↔ s = ⟨#[]⟩ := by
  constructor
  · intro h
    refine toList_inj ?_
    rw [nil_toList]
    simpa using h
  · rintro rfl; rw [nil_toList]; rfl
def Strs (l : List ByteArray) : List (List Value) := l.map fun s => [.string s]
theorem sl_str {w : World} {v : Value} {l : List ByteArray} (h : Sl w 1 v (Strs l)) : ∃ A c, v = .slice A l.length c ∧ l.length ≤ c ∧ c ≤ maxLen ∧ (0 < l.length → ∃ b o, A = some ⟨b, o, none⟩ ∧ b < w.heap.size ∧ ∀ k (h : k < l.length), w.cell? ⟨b, o + k, none⟩ = some (.string l[k])) := by
  obtain ⟨A, c, h1, h2, h3, h4⟩ := h
  simp only [Strs, List.length_map] at h1 h2 h4
  refine ⟨A, c, h1, h2, h3, fun hn => ?_⟩
  obtain ⟨b, o, h5, h6, h7⟩ := h4 hn
  refine ⟨b, o, h5, h6, fun k hk => ?_⟩
  have := h7 k [.string l[k]] 0 _ (by simp [hk]) rfl
  simpa using this
theorem take_eq {α : Type} [DecidableEq α] {l m : List α} {k : Nat} (h : k < l.length) (h' : k < m.length) (ht : l.take k = m.take k) (he : l[k] = m[k]) : l.take (k + 1) = m.take (k + 1) := by
  rw [List.take_succ_eq_append_getElem h, List.take_succ_eq_append_getElem h', ht, he]
set_option maxRecDepth 100000 in
set_option maxHeartbeats 1000000 in
theorem texts_c (w : World) (u v : Value) (l m : List ByteArray) (hu : Sl w 1 u (Strs l)) (hv : Sl w 1 v (Strs m)) :
    Calls Tryd.prog 16 #[u, v] w (Ret (.bool (decide (l = m))) w) := by
  obtain ⟨A, c, rfl, h1, h2, h3⟩ := sl_str hu
  obtain ⟨B, d, rfl, k1, k2, k3⟩ := sl_str hv
  clear hu hv
  unfold maxLen at h2 k2
  by_cases hlen : l.length = m.length
  · go_enter Tryd.func16, Tryd.ntmps16
    go_wp2_with fail
    go_loopw [5] (fun i wr => ∃ k : Nat, k ≤ l.length ∧ i = .int .i64 k ∧ Ext w wr ∧ l.take k = m.take k) (fun i _ => l.length - (intOf i).toNat)
    case atStart => exact ⟨0, by omega, rfl, Ext.refl _, rfl⟩
    case round =>
      obtain ⟨k, hk, rfl, hE, ht⟩ := hrel
      by_cases hlt : k < l.length
      · obtain ⟨b, o, rfl, lb, hcell⟩ := h3 (by omega)
        obtain ⟨b', o', rfl, lb', hcell'⟩ := k3 (by omega)
        have c0 := hE.cell (hcell k hlt)
        have c1 := hE.cell (hcell' k (by omega))
        have Ht := hid ht
        have HE := hid hE
        clear hcell hcell' h3 k3 ht hE
        by_cases he : l[k] = m[k]
        · have hb : ((l[k]).toList == (m[k]).toList) = true := by simp [he]
          go_wp2_with fail
          go_quiet (fail)
          go_wp2_with fail
          go_roundw
          case rel => exact ⟨k + 1, by omega, by go_num, HE.out.drewN' _, take_eq hlt (by omega) Ht.out he⟩
          case measure => simp [intOf]; omega
        · have hb : ((l[k]).toList == (m[k]).toList) = false := by rw [beq_toList]; simp [he]
          go_wp2_with fail
          go_quiet (fail)
          go_wp2_with fail
          go_ret
          refine ⟨?_, HE.out.drewN' _⟩
          have : l ≠ m := fun e => he (by subst e; rfl)
          simp [this]
      · obtain rfl : k = l.length := by omega
        have HE := hid hE
        have Ht := hid ht
        clear hE ht h3 k3
        go_wp2_with fail
        go_ret
        refine ⟨?_, HE.out⟩
        have := Ht.out
        rw [List.take_length, hlen, List.take_length] at this
        simp [this]
  · go_enter Tryd.func16, Tryd.ntmps16
    go_wp2_with fail
    go_ret
    refine ⟨?_, Ext.refl _⟩
    have : l ≠ m := fun e => hlen (by rw [e])
    simp [this]
end Go.Proofs.YtfoafookodldfaaDoor
