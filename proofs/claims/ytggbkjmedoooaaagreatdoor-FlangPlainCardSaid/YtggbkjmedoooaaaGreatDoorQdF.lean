/-
  Filters as texts: what one clause's text is, what a text is as clauses, and that one comes back. Plain.
  Filters as texts: what is printed is read again. Plain.
  flang.clause.
-/
import Derived.Test.YtggbkjmedoooaaaGreatDoorFpEk
import Derived.Test.YtggbkjmedoooaaaGreatDoorQdE
import Derived.Test.YtggbkjmedoooaaaGreatDoorFgSk
import Derived.Lib.CutLaws
import Derived.Test.YtggbkjmedoooaaaGreatDoorShC
import Derived.Test.YtggbkjmedoooaaaGreatDoorRes
namespace Go.Proofs.YtggbkjmedoooaaaGreatDoor
set_option linter.unusedSimpArgs false
set_option linter.unusedVariables false
open Go.RowKit

theorem index_miss (c : UInt8) : ∀ l : List UInt8, (∀ x ∈ l, x ≠ c) → Lib.index l [c] = -1
  | [], _ => by rw [Lib.index]; simp [List.isPrefixOf]
  | b :: l, h => by
    have hb := h b (by simp)
    have ih := index_miss c l fun x hx => h x (by simp [hx])
    have hp : ([c] : List UInt8).isPrefixOf (b :: l) = false := by simp [List.isPrefixOf, Ne.symm hb]
    rw [Lib.index, hp, ih]; simp
theorem index_hit (c : UInt8) (t : List UInt8) : ∀ a : List UInt8, (∀ x ∈ a, x ≠ c) → Lib.index (a ++ c :: t) [c] = (a.length : Nat)
  | [], _ => by
    show Lib.index (c :: t) [c] = _
    rw [Lib.index]; simp [List.isPrefixOf]
  | b :: a, h => by
    have hb := h b (by simp)
    have ih := index_hit c t a fun x hx => h x (by simp [hx])
    have hp : ([c] : List UInt8).isPrefixOf (b :: (a ++ c :: t)) = false := by simp [List.isPrefixOf, Ne.symm hb]
    show Lib.index (b :: (a ++ c :: t)) [c] = _
    rw [Lib.index, hp, ih]
    have : ((a.length : Nat) : Int) ≠ -1 := by omega
    simp [this]
theorem cut_miss (c : UInt8) (l : List UInt8) (h : ∀ x ∈ l, x ≠ c) : Lib.cut l [c] = (l, [], false) := by
  unfold Lib.cut
  rw [index_miss c l h, if_neg (by omega)]
theorem cut_hit (c : UInt8) (a t : List UInt8) (h : ∀ x ∈ a, x ≠ c) : Lib.cut (a ++ c :: t) [c] = (a, t, true) := by
  unfold Lib.cut
  rw [index_hit c t a h, if_pos (by omega)]
  simp
/-- '*' stands for the prefix of all. -/
def starP (p : ByteArray) : ByteArray := if p = Pa.mk [42] then ⟨#[]⟩ else p
noncomputable def mkR (p : ByteArray) (lo hi : Int) : Option ClauseI := if p.toList = [] then none else if rightC ⟨starP p, lo, hi⟩ then some ⟨starP p, lo, hi⟩ else none
/-- What a text is as a clause. -/
noncomputable def clR (s : ByteArray) : Option ClauseI :=
  match C58.spB s with
  | [p] => mkR p 0 200
  | [p, r] => match C45.spB r with
    | [a, b] => mkR p (numR a) (numR b)
    | _ => none
  | _ => none
/-- What flang.clause tells: the text cut at the first colon and hyphen, numbers read. -/
noncomputable def clG (s : ByteArray) : ClauseI × Bool :=
  let c1 := Lib.cut s.toList [58]
  if c1.2.2 then
    let c2 := Lib.cut c1.2.1 [45]
    let x := numG (Pa.mk c2.1)
    let y := numG (Pa.mk c2.2.1)
    (⟨starP (Pa.mk c1.1), x.1, y.1⟩, !c1.1.isEmpty && (c2.2.2 && (x.2 && y.2)))
  else (⟨starP (Pa.mk c1.1), 0, 200⟩, !c1.1.isEmpty)
theorem mkR_some {p : ByteArray} {lo hi : Int} {c : ClauseI} (h : mkR p lo hi = some c) : p.toList ≠ [] ∧ c = ⟨starP p, lo, hi⟩ ∧ rightC c = true := by
  unfold mkR at h
  split at h
  · cases h
  · split at h
    · injection h with h
      subst h
      exact ⟨by assumption, rfl, by assumption⟩
    · cases h
theorem mkR_right {p : ByteArray} {lo hi : Int} (hp : p.toList ≠ []) (h : rightC ⟨starP p, lo, hi⟩ = true) : mkR p lo hi = some ⟨starP p, lo, hi⟩ := by
  unfold mkR
  rw [if_neg hp, if_pos h]
theorem right_range {c : ClauseI} (h : rightC c = true) : 0 ≤ c.lo ∧ c.lo ≤ c.hi ∧ c.hi ≤ 200 := by
  unfold rightC at h
  simp only [Bool.and_eq_true, decide_eq_true_eq] at h
  exact ⟨h.2.1, h.2.2.1, h.2.2.2⟩
theorem dig_free {n : Nat} {c : UInt8} (hc : ¬ isDg c) : ∀ x ∈ (digK n).toList, x ≠ c := fun x hx h => hc (h ▸ digK_bytes n x hx)
theorem spB58_hit {s : ByteArray} {a t : List UInt8} (h : s.toList = a ++ 58 :: t) (ha : ∀ x ∈ a, x ≠ 58) : C58.spB s = Pa.mk a :: (C58.sp t).map Pa.mk := by
  unfold C58.spB
  rw [h, C58.sp_app a t ha]; rfl
theorem spB58_miss {s : ByteArray} (h : ∀ x ∈ s.toList, x ≠ 58) : C58.spB s = [s] := by
  unfold C58.spB
  rw [C58.sp_none _ h]
  show [Pa.mk s.toList] = [s]
  rw [Pa.mk_of]
theorem sp_one58 {t : List UInt8} {x : List UInt8} (h : C58.sp t = [x]) : t = x ∧ ∀ b ∈ t, b ≠ 58 := by
  by_cases hm : (58 : UInt8) ∈ t
  · obtain ⟨a, u, rfl, ha⟩ := List.eq_append_cons_of_mem hm
    rw [C58.sp_app a u (fun y hy e => ha (e ▸ hy))] at h
    injection h with _ h
    exact absurd h (C58.sp_ne u)
  · have hn : ∀ b ∈ t, b ≠ 58 := fun b hb e => hm (e ▸ hb)
    rw [C58.sp_none t hn] at h
    injection h with h
    exact ⟨h, hn⟩
theorem sp_two45 {t : List UInt8} {x y : List UInt8} (h : C45.sp t = [x, y]) : t = x ++ 45 :: y ∧ (∀ b ∈ x, b ≠ 45) ∧ ∀ b ∈ y, b ≠ 45 := by
  by_cases hm : (45 : UInt8) ∈ t
  · obtain ⟨a, u, rfl, ha⟩ := List.eq_append_cons_of_mem hm
    rw [C45.sp_app a u (fun y hy e => ha (e ▸ hy))] at h
    injection h with h1 h2
    subst h1
    refine ⟨?_, fun b hb e => ha (e ▸ hb), ?_⟩
    · by_cases hm2 : (45 : UInt8) ∈ u
      · obtain ⟨a2, u2, rfl, ha2⟩ := List.eq_append_cons_of_mem hm2
        rw [C45.sp_app a2 u2 (fun y hy e => ha2 (e ▸ hy))] at h2
        injection h2 with _ h2
        exact absurd h2 (C45.sp_ne u2)
      · rw [C45.sp_none u (fun b hb e => hm2 (e ▸ hb))] at h2
        injection h2 with h2
        rw [h2]
    · by_cases hm2 : (45 : UInt8) ∈ u
      · obtain ⟨a2, u2, rfl, ha2⟩ := List.eq_append_cons_of_mem hm2
        rw [C45.sp_app a2 u2 (fun y hy e => ha2 (e ▸ hy))] at h2
        injection h2 with _ h2
        exact absurd h2 (C45.sp_ne u2)
      · rw [C45.sp_none u (fun b hb e => hm2 (e ▸ hb))] at h2
        injection h2 with h2
        subst h2
        exact fun b hb e => hm2 (e ▸ hb)
  · rw [C45.sp_none t (fun b hb e => hm (e ▸ hb))] at h
    injection h with _ h
    cases h
/-- The two agree. -/
theorem clG_right {s : ByteArray} (hb : (clG s).2 = true) (hr : rightC (clG s).1 = true) : clR s = some (clG s).1 := by
  by_cases hm : (58 : UInt8) ∈ s.toList
  · obtain ⟨p, r, hs, hp⟩ := List.eq_append_cons_of_mem hm
    have hp' : ∀ x ∈ p, x ≠ 58 := fun x hx e => hp (e ▸ hx)
    have hc := cut_hit 58 p r hp'
    rw [← hs] at hc
    unfold clG at hb hr ⊢
    rw [hc] at hb hr ⊢
    simp only [if_true, Bool.and_eq_true, Bool.not_eq_true'] at hb hr ⊢
    obtain ⟨hb1, hb2, hb3, hb4⟩ := hb
    have hr2 := right_range hr
    dsimp only at hr2
    have hdash : (45 : UInt8) ∈ r := by
      by_cases hd : (45 : UInt8) ∈ r
      · exact hd
      · rw [cut_miss 45 r (fun x hx e => hd (e ▸ hx))] at hb2
        cases hb2
    obtain ⟨a, b, hab, ha⟩ := List.eq_append_cons_of_mem hdash
    have ha' : ∀ x ∈ a, x ≠ 45 := fun x hx e => ha (e ▸ hx)
    have hc2 := cut_hit 45 a b ha'
    rw [← hab] at hc2
    rw [hc2] at hb3 hb4 hr2 ⊢
    dsimp only at hb3 hb4 hr2 ⊢
    have ga := numG_ok (s := Pa.mk a) (n := (numG (Pa.mk a)).1) (by rw [← hb3])
    have gb := numG_ok (s := Pa.mk b) (n := (numG (Pa.mk b)).1) (by rw [← hb4])
    generalize (numG (Pa.mk a)).1 = na at ga hr2 ⊢
    generalize (numG (Pa.mk b)).1 = nb at gb hr2 ⊢
    have la : a = (digK na).toList := by rw [ga, Pa.mk_toList]
    have lb' : b = (digK nb).toList := by rw [gb, Pa.mk_toList]
    have hr58 : ∀ x ∈ r, x ≠ 58 := by
      intro x hx
      rw [hab] at hx
      rcases List.mem_append.1 hx with hx | hx
      · rw [la] at hx; exact dig_free (by unfold isDg; decide) x hx
      · rcases List.mem_cons.1 hx with rfl | hx
        · decide
        · rw [lb'] at hx; exact dig_free (by unfold isDg; decide) x hx
    have hb45 : ∀ x ∈ b, x ≠ 45 := by rw [lb']; exact dig_free (by unfold isDg; decide)
    unfold clR
    rw [spB58_hit hs hp', C58.sp_none r hr58]
    have h45 : C45.spB (Pa.mk r) = [Pa.mk a, Pa.mk b] := by
      unfold C45.spB
      rw [Pa.mk_toList, hab, C45.sp_app a b ha', C45.sp_none b hb45]; rfl
    simp only [List.map_cons, List.map_nil, h45]
    rw [← ga, ← gb, numR_dig (by omega), numR_dig (by omega)]
    refine mkR_right ?_ ?_
    · rw [Pa.mk_toList]
      intro h
      rw [h] at hb1
      cases hb1
    · rw [hc2] at hr
      dsimp only at hr
      rw [← ga, ← gb] at hr
      rwa [numG_dig (by omega), numG_dig (by omega)] at hr
  · have hn : ∀ x ∈ s.toList, x ≠ 58 := fun x hx e => hm (e ▸ hx)
    have hc := cut_miss 58 s.toList hn
    unfold clG at hb hr ⊢
    rw [hc] at hb hr ⊢
    simp only [Bool.false_eq_true, if_false] at hb hr ⊢
    unfold clR
    rw [spB58_miss hn]
    rw [Pa.mk_of] at hr ⊢
    refine mkR_right ?_ hr
    intro h
    rw [h] at hb
    cases hb
theorem clR_clG {s : ByteArray} {c : ClauseI} (h : clR s = some c) : (clG s).2 = true ∧ (clG s).1 = c ∧ rightC c = true := by
  by_cases hm : (58 : UInt8) ∈ s.toList
  · obtain ⟨p, r, hs, hp⟩ := List.eq_append_cons_of_mem hm
    have hp' : ∀ x ∈ p, x ≠ 58 := fun x hx e => hp (e ▸ hx)
    have hc := cut_hit 58 p r hp'
    rw [← hs] at hc
    unfold clR at h
    rw [spB58_hit hs hp'] at h
    cases hsr : C58.sp r with
    | nil => exact absurd hsr (C58.sp_ne r)
    | cons r1 rest =>
      cases rest with
      | cons r2 rest => rw [hsr] at h; simp at h
      | nil =>
        obtain ⟨rfl, hr58⟩ := sp_one58 hsr
        rw [hsr] at h
        simp only [List.map_cons, List.map_nil] at h
        unfold C45.spB at h
        rw [Pa.mk_toList] at h
        cases h45 : C45.sp r with
        | nil => rw [h45] at h; simp at h
        | cons x1 rest =>
          cases rest with
          | nil => rw [h45] at h; simp at h
          | cons x2 rest =>
            cases rest with
            | cons x3 rest => rw [h45] at h; simp at h
            | nil =>
              rw [h45] at h
              simp only [List.map_cons, List.map_nil] at h
              obtain ⟨hr, h1, h2⟩ := sp_two45 h45
              obtain ⟨hpn, rfl, hrc⟩ := mkR_some h
              have hrg := right_range hrc
              dsimp only at hrg
              obtain ⟨na, a1, a2, a3⟩ := numR_pos (s := Pa.mk x1) (by omega)
              obtain ⟨nb, b1, b2, b3⟩ := numR_pos (s := Pa.mk x2) (by omega)
              have hc2 := cut_hit 45 x1 x2 h1
              rw [← hr] at hc2
              unfold clG
              rw [hc]
              simp only [if_true]
              rw [hc2]
              dsimp only
              rw [a3, b3, ← a2, ← b2, numG_dig a1, numG_dig b1]
              refine ⟨?_, rfl, ?_⟩
              · have : p.isEmpty = false := by
                  rw [Pa.mk_toList] at hpn
                  cases p with
                  | nil => exact absurd rfl hpn
                  | cons _ _ => rfl
                rw [this]; rfl
              · rw [a3, b3] at hrc; exact hrc
  · have hn : ∀ x ∈ s.toList, x ≠ 58 := fun x hx e => hm (e ▸ hx)
    have hc := cut_miss 58 s.toList hn
    unfold clR at h
    rw [spB58_miss hn] at h
    obtain ⟨hpn, rfl, hrc⟩ := mkR_some h
    unfold clG
    rw [hc]
    simp only [Bool.false_eq_true, if_false]
    rw [Pa.mk_of]
    refine ⟨?_, rfl, hrc⟩
    cases hl : s.toList with
    | nil => exact absurd hl hpn
    | cons _ _ => rfl
end Go.Proofs.YtggbkjmedoooaaaGreatDoor
namespace Go.Proofs.YtggbkjmedoooaaaGreatDoor
set_option linter.unusedSimpArgs false
set_option linter.unusedVariables false
open Go.RowKit

/-- A clause's text. -/
def textC (c : ClauseI) : ByteArray :=
  let p := if c.pre.toList = [] then Pa.mk [42] else c.pre
  if c.lo = 0 ∧ c.hi = 200 then p else p ++ ⟨#[58]⟩ ++ digK c.lo.toNat ++ ⟨#[45]⟩ ++ digK c.hi.toNat
/-- Texts with commas between. -/
def joinC (l : List ByteArray) : ByteArray := Pa.mk (Lib.join (l.map ByteArray.toList) [44])
/-- A filter's text. -/
def textF (f : List ClauseI) : ByteArray := if f = [] then Pa.mk [33] else joinC (f.map textC)
noncomputable def allR : List ByteArray → Option (List ClauseI)
  | [] => some []
  | s :: l => match clR s, allR l with
    | some c, some f => some (c :: f)
    | _, _ => none
/-- What a text is as a filter. -/
noncomputable def parR (s : ByteArray) : Option (List ClauseI) :=
  if s = Pa.mk [33] then some [] else match allR (C44.spB s) with
    | some f => if f.length ≤ 8 then some f else none
    | none => none
/-- Bytes that stand in a path. -/
def pathB (b : UInt8) : Prop := b ≠ 33 ∧ b ≠ 42 ∧ b ≠ 44 ∧ b ≠ 58
theorem letter_pathB {b : UInt8} (h : Pa.lb b = true) : pathB b := by
  unfold Pa.lb Pa.letterK at h
  refine ⟨?_, ?_, ?_, ?_⟩ <;> (rintro rfl; revert h; decide)
theorem dg_pathB {b : UInt8} (h : isDg b) : pathB b := by
  unfold isDg at h
  refine ⟨?_, ?_, ?_, ?_⟩ <;> (rintro rfl; revert h; decide)
theorem join_mem {x : UInt8} : ∀ {l : List (List UInt8)}, x ∈ Lib.join l [47] → x = 47 ∨ ∃ p ∈ l, x ∈ p
  | [], h => by simp [Lib.join] at h
  | [p], h => by rw [Lib.join_one] at h; exact .inr ⟨p, by simp, h⟩
  | p :: q :: r, h => by
    rw [Lib.join_cons, Pa.join_tail1] at h
    rcases List.mem_append.1 h with h | h
    · exact .inr ⟨p, by simp, h⟩
    · rcases List.mem_cons.1 h with h | h
      · exact .inl h
      · rcases join_mem h with h | ⟨y, hy, hx⟩
        · exact .inl h
        · exact .inr ⟨y, List.mem_cons_of_mem _ hy, hx⟩
theorem rightK_bytes {s : ByteArray} (h : Pa.rightK s = true) : ∀ b ∈ s.toList, pathB b := by
  intro b hb
  unfold Pa.rightK at h
  simp only [Bool.and_eq_true] at h
  have ha := h.1.1
  rw [← Pa.join_sp s.toList] at hb
  rcases join_mem hb with rfl | ⟨p, hp, hx⟩
  · exact ⟨by decide, by decide, by decide, by decide⟩
  · have hm : Pa.mk p ∈ Pa.spB s := List.mem_map.2 ⟨p, hp, rfl⟩
    have hn := List.all_eq_true.1 ha _ hm
    unfold Pa.nameK at hn
    simp only [Bool.and_eq_true] at hn
    have hl := List.all_eq_true.1 hn.1.2 b (by rw [Pa.mk_toList]; exact hx)
    exact letter_pathB hl
theorem rightC_pre {c : ClauseI} (h : rightC c = true) : c.pre.toList = [] ∨ Pa.rightK c.pre = true := by
  unfold rightC at h
  simp only [Bool.and_eq_true, Bool.or_eq_true, List.isEmpty_iff] at h
  exact h.1
/-- What stands ahead of the colon. -/
def headC (c : ClauseI) : ByteArray := if c.pre.toList = [] then Pa.mk [42] else c.pre
theorem headC_bytes {c : ClauseI} (h : rightC c = true) : (∀ b ∈ (headC c).toList, b ≠ 33 ∧ b ≠ 44 ∧ b ≠ 58) ∧ (headC c).toList ≠ [] ∧ starP (headC c) = c.pre := by
  unfold headC
  by_cases hp : c.pre.toList = []
  · rw [if_pos hp, Pa.mk_toList]
    refine ⟨fun b hb => ?_, by simp, ?_⟩
    · rw [List.mem_singleton.1 hb]; decide
    · unfold starP
      rw [if_pos rfl]
      have := Pa.mk_of c.pre
      rw [hp] at this
      rw [← this]; rfl
  · rw [if_neg hp]
    have hr : Pa.rightK c.pre = true := (rightC_pre h).resolve_left hp
    have hb := rightK_bytes hr
    refine ⟨fun b hx => ⟨(hb b hx).1, (hb b hx).2.2.1, (hb b hx).2.2.2⟩, hp, ?_⟩
    unfold starP
    rw [if_neg]
    intro e
    rw [e, Pa.mk_toList] at hb
    exact (hb 42 (by simp)).2.1 rfl
theorem textC_list (c : ClauseI) : (textC c).toList = if c.lo = 0 ∧ c.hi = 200 then (headC c).toList else (headC c).toList ++ 58 :: ((digK c.lo.toNat).toList ++ 45 :: (digK c.hi.toNat).toList) := by
  unfold textC headC
  dsimp only
  split
  · rfl
  · rw [toList_app, toList_app, toList_app, toList_app]
    have e1 : (⟨#[58]⟩ : ByteArray).toList = [58] := by rw [Lib.toList_data]
    have e2 : (⟨#[45]⟩ : ByteArray).toList = [45] := by rw [Lib.toList_data]
    rw [e1, e2]
    simp
theorem textC_bytes {c : ClauseI} (h : rightC c = true) : (∀ b ∈ (textC c).toList, b ≠ 33 ∧ b ≠ 44) ∧ (textC c).toList ≠ [] := by
  obtain ⟨h1, h2, _⟩ := headC_bytes h
  rw [textC_list]
  split
  · exact ⟨fun b hb => ⟨(h1 b hb).1, (h1 b hb).2.1⟩, h2⟩
  · refine ⟨fun b hb => ?_, by simp⟩
    rcases List.mem_append.1 hb with hb | hb
    · exact ⟨(h1 b hb).1, (h1 b hb).2.1⟩
    · rcases List.mem_cons.1 hb with rfl | hb
      · decide
      · rcases List.mem_append.1 hb with hb | hb
        · have := dg_pathB (digK_bytes _ b hb); exact ⟨this.1, this.2.2.1⟩
        · rcases List.mem_cons.1 hb with rfl | hb
          · decide
          · have := dg_pathB (digK_bytes _ b hb); exact ⟨this.1, this.2.2.1⟩
theorem clR_text {c : ClauseI} (h : rightC c = true) : clR (textC c) = some c := by
  obtain ⟨h1, h2, h3⟩ := headC_bytes h
  have hr := right_range h
  have hl := textC_list c
  unfold clR
  by_cases hf : c.lo = 0 ∧ c.hi = 200
  · rw [if_pos hf] at hl
    rw [spB58_miss (by rw [hl]; exact fun x hx => (h1 x hx).2.2)]
    have e : textC c = headC c := by rw [← Pa.mk_of (textC c), hl, Pa.mk_of]
    rw [e]
    have hc : (⟨starP (headC c), 0, 200⟩ : ClauseI) = c := by rw [h3, ← hf.1, ← hf.2]
    have := mkR_right (p := headC c) (lo := 0) (hi := 200) h2 (by rw [hc]; exact h)
    rw [hc] at this
    exact this
  · rw [if_neg hf] at hl
    have hd : ∀ x ∈ (digK c.lo.toNat).toList ++ 45 :: (digK c.hi.toNat).toList, x ≠ 58 := by
      intro x hx
      rcases List.mem_append.1 hx with hx | hx
      · exact dig_free (by unfold isDg; decide) x hx
      · rcases List.mem_cons.1 hx with rfl | hx
        · decide
        · exact dig_free (by unfold isDg; decide) x hx
    rw [spB58_hit hl (fun x hx => (h1 x hx).2.2), C58.sp_none _ hd]
    have h45 : C45.spB (Pa.mk ((digK c.lo.toNat).toList ++ 45 :: (digK c.hi.toNat).toList)) = [digK c.lo.toNat, digK c.hi.toNat] := by
      unfold C45.spB
      rw [Pa.mk_toList, C45.sp_app _ _ (dig_free (by unfold isDg; decide)), C45.sp_none _ (dig_free (by unfold isDg; decide))]
      simp only [List.map_cons, List.map_nil, Pa.mk_of]
    simp only [List.map_cons, List.map_nil, h45, Pa.mk_of]
    rw [numR_dig (by omega), numR_dig (by omega)]
    have hc : (⟨starP (headC c), (c.lo.toNat : Int), (c.hi.toNat : Int)⟩ : ClauseI) = c := by
      rw [h3, show (c.lo.toNat : Int) = c.lo by omega, show (c.hi.toNat : Int) = c.hi by omega]
    have := mkR_right (p := headC c) (lo := (c.lo.toNat : Int)) (hi := (c.hi.toNat : Int)) h2 (by rw [hc]; exact h)
    rw [hc] at this
    exact this
theorem allR_text : ∀ (f : List ClauseI), (∀ c ∈ f, rightC c = true) → allR (f.map textC) = some f
  | [], _ => rfl
  | c :: f, h => by
    simp only [List.map_cons, allR, clR_text (h c (by simp)), allR_text f (fun x hx => h x (by simp [hx]))]
theorem spB_joinC {l : List ByteArray} (hl : l ≠ []) (h : ∀ x ∈ l, ∀ b ∈ x.toList, b ≠ 44) : C44.spB (joinC l) = l := by
  refine (C44.spB_eq ?_).symm
  unfold joinC
  rw [Pa.mk_toList, C44.sp_join _ (by simpa using hl)]
  intro x hx
  obtain ⟨y, hy, rfl⟩ := List.mem_map.1 hx
  exact h y hy
theorem textF_bang {f : List ClauseI} (h : ∀ c ∈ f, rightC c = true) (hn : f ≠ []) : textF f ≠ Pa.mk [33] := by
  unfold textF
  rw [if_neg hn]
  intro e
  have h1 := spB_joinC (l := f.map textC) (by simpa using hn) (fun x hx b hb => by
    obtain ⟨c, hc, rfl⟩ := List.mem_map.1 hx
    exact ((textC_bytes (h c hc)).1 b hb).2)
  rw [e] at h1
  have h2 : C44.spB (Pa.mk [33]) = [Pa.mk [33]] := by
    unfold C44.spB
    rw [Pa.mk_toList, C44.sp_none _ (by intro x hx; rw [List.mem_singleton.1 hx]; decide)]; rfl
  rw [h2] at h1
  cases f with
  | nil => exact hn rfl
  | cons c f =>
    rw [List.map_cons] at h1
    injection h1 with h1 _
    have := (textC_bytes (h c (by simp))).1 33 (by rw [← h1, Pa.mk_toList]; simp)
    exact this.1 rfl
theorem parR_text {f : List ClauseI} (h : ∀ c ∈ f, rightC c = true) (hl : f.length ≤ 8) : parR (textF f) = some f := by
  unfold parR
  by_cases hn : f = []
  · subst hn
    rw [if_pos (by unfold textF; rw [if_pos rfl])]
  · rw [if_neg (textF_bang h hn)]
    have h1 : C44.spB (textF f) = f.map textC := by
      unfold textF
      rw [if_neg hn]
      exact spB_joinC (by simpa using hn) (fun x hx b hb => by
        obtain ⟨c, hc, rfl⟩ := List.mem_map.1 hx
        exact ((textC_bytes (h c hc)).1 b hb).2)
    rw [h1, allR_text f h]
    simp only [if_pos hl]
/-- Those that have one text are one. -/
theorem textF_inj {f g : List ClauseI} (hf : ∀ c ∈ f, rightC c = true) (hg : ∀ c ∈ g, rightC c = true) (lf : f.length ≤ 8) (lg : g.length ≤ 8) (h : textF f = textF g) : f = g := by
  have h1 := parR_text hf lf
  have h2 := parR_text hg lg
  rw [h, h2] at h1
  exact Option.some.inj h1.symm
theorem clR_right {s : ByteArray} {c : ClauseI} (h : clR s = some c) : rightC c = true := (clR_clG h).2.2
theorem allR_right : ∀ {l : List ByteArray} {f : List ClauseI}, allR l = some f → (∀ c ∈ f, rightC c = true) ∧ f.length = l.length
  | [], f, h => by
    simp only [allR, Option.some.injEq] at h
    subst h
    exact ⟨fun c hc => (by cases hc), rfl⟩
  | s :: l, f, h => by
    unfold allR at h
    cases h1 : clR s with
    | none => rw [h1] at h; simp at h
    | some c =>
      cases h2 : allR l with
      | none => rw [h1, h2] at h; simp at h
      | some g =>
        rw [h1, h2] at h
        simp only [Option.some.injEq] at h
        subst h
        obtain ⟨a1, a2⟩ := allR_right h2
        refine ⟨fun x hx => ?_, by simp [a2]⟩
        rcases List.mem_cons.1 hx with rfl | hx
        · exact clR_right h1
        · exact a1 x hx
theorem parR_right {s : ByteArray} {f : List ClauseI} (h : parR s = some f) : (∀ c ∈ f, rightC c = true) ∧ f.length ≤ 8 := by
  unfold parR at h
  split at h
  · injection h with h
    subst h
    exact ⟨fun c hc => (by cases hc), by simp⟩
  · cases ha : allR (C44.spB s) with
    | none => rw [ha] at h; simp at h
    | some g =>
      rw [ha] at h
      dsimp only at h
      split at h
      · injection h with h
        subst h
        exact ⟨(allR_right ha).1, by assumption⟩
      · cases h
end Go.Proofs.YtggbkjmedoooaaaGreatDoor
namespace Go.Proofs.YtggbkjmedoooaaaGreatDoor
set_option linter.unusedSimpArgs false
set_option linter.unusedVariables false
open Go.RowKit

theorem cut_len (l : List UInt8) (c : UInt8) : (Lib.cut l [c]).1.length ≤ l.length ∧ (Lib.cut l [c]).2.1.length ≤ l.length := by
  unfold Lib.cut
  split
  · simp only [List.length_take, List.length_drop]; omega
  · simp
theorem mk_size (l : List UInt8) : (Pa.mk l).size = l.length := by rw [← size_toList, Pa.mk_toList]
/-- strings.Cut at a byte. -/
theorem scut_c (w : World) (s : ByteArray) (c : UInt8) (m : Int) (hs : s.size ≤ 100000) (hm : w.cell? ⟨0, 0, none⟩ = some (.int .i64 m)) : Calls Tryz.prog 37 #[.string s, .string ⟨#[c]⟩] w (Ret (.tuple #[.string (Pa.mk (Lib.cut s.toList [c]).1), .string (Pa.mk (Lib.cut s.toList [c]).2.1), .bool (Lib.cut s.toList [c]).2.2]) w) := by
  refine (Tryz.strings_Cut s ⟨#[c]⟩ m w (by omega) hm).mono ?_
  rintro en w' ⟨rfl, n, rfl⟩
  rw [Lib.toList_data]
  exact ⟨rfl, (Ext.refl w).drewN' n⟩
set_option maxRecDepth 100000 in
set_option maxHeartbeats 4000000 in
theorem clause_plain (w : World) (s : ByteArray) (m : Int) (hm : w.cell? ⟨0, 0, none⟩ = some (.int .i64 m)) (hs : s.size ≤ 100000) (p r : ByteArray) (hc : ∀ W, Ext w W → Calls Tryz.prog 37 #[.string s, .string ⟨#[58]⟩] W (Ret (.tuple #[.string p, .string r, .bool false]) W)) : Calls Tryz.prog 21 #[.string s] w (Ret (.tuple #[ClauseI.val ⟨starP p, 0, 200⟩, .bool (!p.toList.isEmpty)]) w) := by
  have HC := fun W hW => hid (hc W hW)
  have HR := hid (Blk.new w 42 #[.string ⟨#[]⟩, .int .i64 0, .int .i64 0])
  have HX := hid (Ext.alloc w (.cells #[.string ⟨#[]⟩, .int .i64 0, .int .i64 0] 42))
  have hq : (p.toList == [42]) = decide (p = Pa.mk [42]) := by
    have := beq_toList p (Pa.mk [42])
    rwa [Pa.mk_toList] at this
  clear hc hm hs
  go_enter Tryz.func21, Tryz.ntmps21
  go_wp2_with fail
  generalize w.alloc (.cells #[.string ⟨#[]⟩, .int .i64 0, .int .i64 0] 42) = w0 at HR HX ⊢
  refine ((HC _ HX.out).out).mono ?_
  rintro en w1 ⟨rfl, x1⟩
  have HR1 := hid (HR.out.ext x1)
  have HX1 := hid (HX.out.trans x1)
  have r0 := HR1.out.cell (i := 0) (v := .string ⟨#[]⟩) rfl
  have r1 := HR1.out.cell (i := 1) (v := .int .i64 0) rfl
  have r2 := HR1.out.cell (i := 2) (v := .int .i64 0) rfl
  have q0 := HR1.out.frozen 0
  have q1 := HR1.out.frozen 1
  have q2 := HR1.out.frozen 2
  have rl := HR1.out.lt
  clear x1 HR HX HC
  by_cases hst : p = Pa.mk [42]
  · rw [decide_eq_true hst] at hq
    have HS : Hid (starP p = ⟨#[]⟩) := by unfold Hid starP; rw [if_pos hst]
    clear hst
    go_wp2_with fail
    have HF : Hid (Blk _ w.heap.size 42 #[.string ⟨#[]⟩, .int .i64 0, .int .i64 200]) := (((HR1.out.set 0 (.string ⟨#[]⟩)).set 1 (.int .i64 0)).set 2 (.int .i64 200)).alloc (.cells #[.string ⟨#[]⟩, .int .i64 0, .int .i64 200] 42)
    refine bodyPost_ret (results_cell_row_tmp rfl _ _ w.heap.size 42 _ (0, 0) _ rfl HF.out Tryz.underlying42 rfl (show (Tryz.prog.info? 42).map (·.size) = some 3 by kernel_rfl)) rfl ?_
    exact ⟨by unfold ClauseI.val; rw [HS.out]; rfl, (((HX1.out.setCell' (p := ⟨w.heap.size, 0, none⟩) (Nat.le_refl _) _).setCell' (p := ⟨w.heap.size, 1, none⟩) (Nat.le_refl _) _).setCell' (p := ⟨w.heap.size, 2, none⟩) (Nat.le_refl _) _).alloc' _⟩
  · rw [decide_eq_false hst] at hq
    have HS : Hid (starP p = p) := by unfold Hid starP; rw [if_neg hst]
    clear hst
    go_wp2_with fail
    have HF : Hid (Blk _ w.heap.size 42 #[.string p, .int .i64 0, .int .i64 200]) := (((HR1.out.set 0 (.string p)).set 1 (.int .i64 0)).set 2 (.int .i64 200)).alloc (.cells #[.string p, .int .i64 0, .int .i64 200] 42)
    refine bodyPost_ret (results_cell_row_tmp rfl _ _ w.heap.size 42 _ (0, 0) _ rfl HF.out Tryz.underlying42 rfl (show (Tryz.prog.info? 42).map (·.size) = some 3 by kernel_rfl)) rfl ?_
    exact ⟨by unfold ClauseI.val; rw [HS.out]; rfl, (((HX1.out.setCell' (p := ⟨w.heap.size, 0, none⟩) (Nat.le_refl _) _).setCell' (p := ⟨w.heap.size, 1, none⟩) (Nat.le_refl _) _).setCell' (p := ⟨w.heap.size, 2, none⟩) (Nat.le_refl _) _).alloc' _⟩
set_option maxRecDepth 100000 in
set_option maxHeartbeats 8000000 in
theorem clause_range (w : World) (s : ByteArray) (p r lo hi : ByteArray) (na nb : Nat) (is bx by_ : Bool) (hc : ∀ W, Ext w W → Calls Tryz.prog 37 #[.string s, .string ⟨#[58]⟩] W (Ret (.tuple #[.string p, .string r, .bool true]) W)) (hd : ∀ W, Ext w W → Calls Tryz.prog 37 #[.string r, .string ⟨#[45]⟩] W (Ret (.tuple #[.string lo, .string hi, .bool is]) W)) (ha : ∀ W, Calls Tryz.prog 38 #[.string lo] W (Ret (.tuple #[.int .i64 na, .bool bx]) W)) (hb : ∀ W, Calls Tryz.prog 38 #[.string hi] W (Ret (.tuple #[.int .i64 nb, .bool by_]) W)) : Calls Tryz.prog 21 #[.string s] w (Ret (.tuple #[ClauseI.val ⟨starP p, na, nb⟩, .bool (!p.toList.isEmpty && (is && (bx && by_)))]) w) := by
  have HC := fun W hW => hid (hc W hW)
  have HD := fun W hW => hid (hd W hW)
  have HA := fun W => hid (ha W)
  have HB := fun W => hid (hb W)
  have HR := hid (Blk.new w 42 #[.string ⟨#[]⟩, .int .i64 0, .int .i64 0])
  have HX := hid (Ext.alloc w (.cells #[.string ⟨#[]⟩, .int .i64 0, .int .i64 0] 42))
  have hq : (p.toList == [42]) = decide (p = Pa.mk [42]) := by
    have := beq_toList p (Pa.mk [42])
    rwa [Pa.mk_toList] at this
  clear hc hd ha hb
  go_enter Tryz.func21, Tryz.ntmps21
  go_wp2_with fail
  generalize w.alloc (.cells #[.string ⟨#[]⟩, .int .i64 0, .int .i64 0] 42) = w0 at HR HX ⊢
  refine ((HC _ HX.out).out).mono ?_
  rintro en w1 ⟨rfl, x1⟩
  have HR1 := hid (HR.out.ext x1)
  have HX1 := hid (HX.out.trans x1)
  clear x1 HR HX HC
  by_cases hst : p = Pa.mk [42]
  · rw [decide_eq_true hst] at hq
    have HS : Hid (starP p = ⟨#[]⟩) := by unfold Hid starP; rw [if_pos hst]
    clear hst
    go_wp2_with fail
    have HR2 := hid (HR1.out.alloc (.cells #[.string ⟨#[]⟩, .int .i64 0, .int .i64 200] 42))
    have HX2 := hid (HX1.out.alloc' (.cells #[.string ⟨#[]⟩, .int .i64 0, .int .i64 200] 42))
    have HU2 := hid (Blk.new w1 42 #[.string ⟨#[]⟩, .int .i64 0, .int .i64 200])
    have HG : Hid (w.heap.size < w1.heap.size) := HR1.out.lt
    clear hq HR1 HX1
    generalize w1.alloc (.cells #[.string ⟨#[]⟩, .int .i64 0, .int .i64 200] 42) = w2 at HR2 HX2 HU2 ⊢
    generalize w1.heap.size = g at HU2 HG ⊢
    refine ((HD _ HX2.out).out).mono ?_
    rintro en w3 ⟨rfl, x3⟩
    have HX3 := hid (HX2.out.trans x3)
    have HR3 := hid (HR2.out.ext x3)
    have HU3 := hid (HU2.out.ext x3)
    clear x3 HX2 HR2 HU2 HD
    go_wp2_with fail
    refine ((HA _).out).mono ?_
    rintro en w4 ⟨rfl, x4⟩
    have HX4 := hid (HX3.out.trans x4)
    have HR4 := hid (HR3.out.ext x4)
    have HU4 := hid (HU3.out.ext x4)
    clear x4 HX3 HR3 HU3 HA
    go_wp2_with fail
    refine ((HB _).out).mono ?_
    rintro en w5 ⟨rfl, x5⟩
    have HX5 := hid (HX4.out.trans x5)
    have HR5 := hid (HR4.out.ext x5)
    have HU5 := hid (HU4.out.ext x5)
    clear x5 HX4 HR4 HU4 HB
    have r0 := HR5.out.cell (i := 0) (v := .string ⟨#[]⟩) rfl
    have r1 := HR5.out.cell (i := 1) (v := .int .i64 0) rfl
    have r2 := HR5.out.cell (i := 2) (v := .int .i64 0) rfl
    have q0 := HR5.out.frozen 0
    have q1 := HR5.out.frozen 1
    have q2 := HR5.out.frozen 2
    have rl := HR5.out.lt
    have u0 := HU5.out.cell (i := 0) (v := .string ⟨#[]⟩) rfl
    have u1 := HU5.out.cell (i := 1) (v := .int .i64 0) rfl
    have u2 := HU5.out.cell (i := 2) (v := .int .i64 200) rfl
    have v1 := HU5.out.frozen 1
    have v2 := HU5.out.frozen 2
    have ul := HU5.out.lt
    have hne : w.heap.size ≠ g := by have := HG.out; omega
    have hne' : g ≠ w.heap.size := fun e => hne e.symm
    have HS1 := hid HS.out
    cases he : p.toList.isEmpty <;> cases is <;> cases bx <;> cases by_
    all_goals
      go_wp2_with fail
      have HF : Hid (Blk (((((w5.setCell ⟨g, 1, none⟩ (.int .i64 na)).setCell ⟨g, 2, none⟩ (.int .i64 nb)).setCell ⟨w.heap.size, 0, none⟩ (.string ⟨#[]⟩)).setCell ⟨w.heap.size, 1, none⟩ (.int .i64 na)).setCell ⟨w.heap.size, 2, none⟩ (.int .i64 nb)) w.heap.size 42 #[.string ⟨#[]⟩, .int .i64 na, .int .i64 nb]) := ((((HR5.out.far (p := ⟨g, 1, none⟩) hne _).far (p := ⟨g, 2, none⟩) hne _).set 0 _).set 1 _).set 2 _
      refine bodyPost_ret (results_cell_row_tmp rfl _ _ w.heap.size 42 _ (0, 0) _ rfl HF.out Tryz.underlying42 rfl (show (Tryz.prog.info? 42).map (·.size) = some 3 by kernel_rfl)) rfl ?_
      exact ⟨by unfold ClauseI.val; rw [HS1.out, he]; rfl, ((((HX5.out.setCell' (p := ⟨g, 1, none⟩) (Nat.le_of_lt HG.out) _).setCell' (p := ⟨g, 2, none⟩) (Nat.le_of_lt HG.out) _).setCell' (p := ⟨w.heap.size, 0, none⟩) (Nat.le_refl _) _).setCell' (p := ⟨w.heap.size, 1, none⟩) (Nat.le_refl _) _).setCell' (p := ⟨w.heap.size, 2, none⟩) (Nat.le_refl _) _⟩
  · rw [decide_eq_false hst] at hq
    have HS : Hid (starP p = p) := by unfold Hid starP; rw [if_neg hst]
    clear hst
    go_wp2_with fail
    have HR2 := hid (HR1.out.alloc (.cells #[.string p, .int .i64 0, .int .i64 200] 42))
    have HX2 := hid (HX1.out.alloc' (.cells #[.string p, .int .i64 0, .int .i64 200] 42))
    have HU2 := hid (Blk.new w1 42 #[.string p, .int .i64 0, .int .i64 200])
    have HG : Hid (w.heap.size < w1.heap.size) := HR1.out.lt
    clear hq HR1 HX1
    generalize w1.alloc (.cells #[.string p, .int .i64 0, .int .i64 200] 42) = w2 at HR2 HX2 HU2 ⊢
    generalize w1.heap.size = g at HU2 HG ⊢
    refine ((HD _ HX2.out).out).mono ?_
    rintro en w3 ⟨rfl, x3⟩
    have HX3 := hid (HX2.out.trans x3)
    have HR3 := hid (HR2.out.ext x3)
    have HU3 := hid (HU2.out.ext x3)
    clear x3 HX2 HR2 HU2 HD
    go_wp2_with fail
    refine ((HA _).out).mono ?_
    rintro en w4 ⟨rfl, x4⟩
    have HX4 := hid (HX3.out.trans x4)
    have HR4 := hid (HR3.out.ext x4)
    have HU4 := hid (HU3.out.ext x4)
    clear x4 HX3 HR3 HU3 HA
    go_wp2_with fail
    refine ((HB _).out).mono ?_
    rintro en w5 ⟨rfl, x5⟩
    have HX5 := hid (HX4.out.trans x5)
    have HR5 := hid (HR4.out.ext x5)
    have HU5 := hid (HU4.out.ext x5)
    clear x5 HX4 HR4 HU4 HB
    have r0 := HR5.out.cell (i := 0) (v := .string ⟨#[]⟩) rfl
    have r1 := HR5.out.cell (i := 1) (v := .int .i64 0) rfl
    have r2 := HR5.out.cell (i := 2) (v := .int .i64 0) rfl
    have q0 := HR5.out.frozen 0
    have q1 := HR5.out.frozen 1
    have q2 := HR5.out.frozen 2
    have rl := HR5.out.lt
    have u0 := HU5.out.cell (i := 0) (v := .string p) rfl
    have u1 := HU5.out.cell (i := 1) (v := .int .i64 0) rfl
    have u2 := HU5.out.cell (i := 2) (v := .int .i64 200) rfl
    have v1 := HU5.out.frozen 1
    have v2 := HU5.out.frozen 2
    have ul := HU5.out.lt
    have hne : w.heap.size ≠ g := by have := HG.out; omega
    have hne' : g ≠ w.heap.size := fun e => hne e.symm
    have HS1 := hid HS.out
    cases he : p.toList.isEmpty <;> cases is <;> cases bx <;> cases by_
    all_goals
      go_wp2_with fail
      have HF : Hid (Blk (((((w5.setCell ⟨g, 1, none⟩ (.int .i64 na)).setCell ⟨g, 2, none⟩ (.int .i64 nb)).setCell ⟨w.heap.size, 0, none⟩ (.string p)).setCell ⟨w.heap.size, 1, none⟩ (.int .i64 na)).setCell ⟨w.heap.size, 2, none⟩ (.int .i64 nb)) w.heap.size 42 #[.string p, .int .i64 na, .int .i64 nb]) := ((((HR5.out.far (p := ⟨g, 1, none⟩) hne _).far (p := ⟨g, 2, none⟩) hne _).set 0 _).set 1 _).set 2 _
      refine bodyPost_ret (results_cell_row_tmp rfl _ _ w.heap.size 42 _ (0, 0) _ rfl HF.out Tryz.underlying42 rfl (show (Tryz.prog.info? 42).map (·.size) = some 3 by kernel_rfl)) rfl ?_
      exact ⟨by unfold ClauseI.val; rw [HS1.out, he]; rfl, ((((HX5.out.setCell' (p := ⟨g, 1, none⟩) (Nat.le_of_lt HG.out) _).setCell' (p := ⟨g, 2, none⟩) (Nat.le_of_lt HG.out) _).setCell' (p := ⟨w.heap.size, 0, none⟩) (Nat.le_refl _) _).setCell' (p := ⟨w.heap.size, 1, none⟩) (Nat.le_refl _) _).setCell' (p := ⟨w.heap.size, 2, none⟩) (Nat.le_refl _) _⟩
theorem clause_c (w : World) (s : ByteArray) (m : Int) (hm : w.cell? ⟨0, 0, none⟩ = some (.int .i64 m)) (hs : s.size ≤ 100000) : Calls Tryz.prog 21 #[.string s] w (Ret (.tuple #[(clG s).1.val, .bool (clG s).2]) w) := by
  have hc := fun W (hW : Ext w W) => scut_c W s 58 m hs (hW.cell hm)
  have h1 := cut_len s.toList 58
  rw [size_toList] at h1
  cases hb : (Lib.cut s.toList [58]).2.2 with
  | false =>
    have := clause_plain w s m hm hs (Pa.mk (Lib.cut s.toList [58]).1) (Pa.mk (Lib.cut s.toList [58]).2.1) (fun W hW => by have := hc W hW; rwa [hb] at this)
    rw [Pa.mk_toList] at this
    unfold clG
    simp only [hb, Bool.false_eq_true, if_false]
    exact this
  | true =>
    have hd := fun W (hW : Ext w W) => scut_c W (Pa.mk (Lib.cut s.toList [58]).2.1) 45 m (by rw [mk_size]; omega) (hW.cell hm)
    have h2 := cut_len (Lib.cut s.toList [58]).2.1 45
    simp only [Pa.mk_toList] at hd
    have := clause_range w s (Pa.mk (Lib.cut s.toList [58]).1) (Pa.mk (Lib.cut s.toList [58]).2.1) _ _ _ _ _ _ _ (fun W hW => by have := hc W hW; rwa [hb] at this) hd (fun W => number_c W (Pa.mk (Lib.cut (Lib.cut s.toList [58]).2.1 [45]).1) (by rw [mk_size]; omega)) (fun W => number_c W (Pa.mk (Lib.cut (Lib.cut s.toList [58]).2.1 [45]).2.1) (by rw [mk_size]; omega))
    rw [Pa.mk_toList] at this
    unfold clG
    simp only [hb, if_true]
    exact this
end Go.Proofs.YtggbkjmedoooaaaGreatDoor
