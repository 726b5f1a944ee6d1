/-
  Names of leaves: where two of them agree (of no program: what paths and digits say).
  FilesNames, the plain law: live items, their best updates, their leaves.
  FilesNames, the plain law: how many leaves are of one update; two leaves of one name; Best's answer as a number.
-/
import Derived.Test.YtjbpdepeimgocaaFnRk
namespace Go.Proofs.Ytjbpdepeimgocaa
set_option linter.unusedSimpArgs false
set_option linter.unusedVariables false
open Go.RowKit Go.Sort

theorem app_cut {α : Type} {c : α} : ∀ (p q X Y : List α), c ∉ p → c ∉ q → p ++ c :: X = q ++ c :: Y → p = q ∧ X = Y
  | [], [], X, Y, _, _, h => ⟨rfl, by simpa using h⟩
  | [], b :: q, X, Y, _, hq, h => by
    have e : c = b ∧ X = q ++ c :: Y := by simpa using h
    exact absurd (by rw [e.1]; simp) hq
  | a :: p, [], X, Y, hp, _, h => by
    have e : a = c ∧ p ++ c :: X = Y := by simpa using h
    exact absurd (by rw [e.1]; simp) hp
  | a :: p, b :: q, X, Y, hp, hq, h => by
    have e : a = b ∧ p ++ c :: X = q ++ c :: Y := by simpa using h
    have := app_cut p q X Y (fun hc => hp (by simp [hc])) (fun hc => hq (by simp [hc])) e.2
    exact ⟨by rw [e.1, this.1], this.2⟩
theorem sp_mem {b : UInt8} (hb : b ≠ 47) : ∀ (l : List UInt8), b ∈ l → ∃ x ∈ Pa.sp l, b ∈ x
  | [], h => by simp at h
  | a :: t, h => by
    unfold Pa.sp
    by_cases ha : a = 47
    · rw [if_pos ha]
      have : b ∈ t := by
        rcases List.mem_cons.1 h with e | e
        · exact absurd (e.trans ha) hb
        · exact e
      obtain ⟨x, hx, hbx⟩ := sp_mem hb t this
      exact ⟨x, by simp [hx], hbx⟩
    · rw [if_neg ha]
      rcases List.mem_cons.1 h with e | e
      · exact ⟨_, List.mem_cons_self, by rw [e]; simp⟩
      · obtain ⟨x, hx, hbx⟩ := sp_mem hb t e
        rw [Pa.sp_head t] at hx
        rcases List.mem_cons.1 hx with e2 | e2
        · exact ⟨_, List.mem_cons_self, by rw [← e2]; simp [hbx]⟩
        · exact ⟨x, by simp [e2], hbx⟩
theorem right_no {s : ByteArray} (h : Pa.rightK s = true) : (126 : UInt8) ∉ s.toList := by
  intro hm
  obtain ⟨x, hx, hbx⟩ := sp_mem (b := 126) (by decide) _ hm
  unfold Pa.rightK at h
  simp only [Bool.and_eq_true, List.all_eq_true] at h
  rw [← Pa.spB_lists] at hx
  obtain ⟨y, hy, rfl⟩ := List.mem_map.1 hx
  have := h.1.1 y hy
  unfold Pa.nameK at this
  simp only [Bool.and_eq_true, List.all_eq_true] at this
  have h2 := this.1.2 126 hbx
  revert h2
  decide
def digL (n : Nat) : List UInt8 := (digK n).toList
theorem digL_small {n : Nat} (h : n < 10) : digL n = [dgB n] := by
  unfold digL
  rw [digK_small h, Lib.toList_data]
theorem digL_big {n : Nat} (h : ¬ n < 10) : digL n = digL (n / 10) ++ [dgB (n % 10)] := by
  unfold digL
  rw [digK_big h, Lib.toList_data, Lib.toList_data, ByteArray.data_append, Array.toList_append]
theorem dgB_lim : ∀ n : Nat, n < 10 → 48 ≤ dgB n ∧ dgB n ≤ 57 := by decide
theorem dgB_inj : ∀ n : Nat, n < 10 → ∀ m : Nat, m < 10 → dgB n = dgB m → n = m := by decide
theorem dig_mem (n : Nat) : ∀ b : UInt8, b ∈ digL n → 48 ≤ b ∧ b ≤ 57 := by
  induction n using Nat.strongRecOn with
  | _ n ih =>
    intro b hb
    by_cases h : n < 10
    · rw [digL_small h] at hb
      obtain rfl : b = dgB n := by simpa using hb
      exact dgB_lim n h
    · rw [digL_big h] at hb
      rcases List.mem_append.1 hb with hb | hb
      · exact ih _ (by omega) b hb
      · obtain rfl : b = dgB (n % 10) := by simpa using hb
        exact dgB_lim _ (Nat.mod_lt _ (by omega))
theorem digL_ne (n : Nat) : digL n ≠ [] := by
  by_cases h : n < 10
  · rw [digL_small h]; simp
  · rw [digL_big h]; simp
theorem digL_inj : ∀ (n m : Nat), digL n = digL m → n = m := by
  intro n
  induction n using Nat.strongRecOn with
  | _ n ih =>
    intro m e
    by_cases h : n < 10
    · by_cases h' : m < 10
      · rw [digL_small h, digL_small h'] at e
        exact dgB_inj n h m h' (by simpa using e)
      · rw [digL_small h, digL_big h'] at e
        have := congrArg List.length e
        rw [List.length_append] at this
        have h3 := List.length_pos_iff.2 (digL_ne (m / 10))
        simp only [List.length_cons, List.length_nil] at this
        omega
    · by_cases h' : m < 10
      · rw [digL_big h, digL_small h'] at e
        have := congrArg List.length e
        rw [List.length_append] at this
        have h3 := List.length_pos_iff.2 (digL_ne (n / 10))
        simp only [List.length_cons, List.length_nil] at this
        omega
      · rw [digL_big h, digL_big h'] at e
        obtain ⟨e1, e2⟩ := List.append_inj' e rfl
        have e3 := ih _ (by omega) _ e1
        have e4 := dgB_inj _ (Nat.mod_lt n (by omega : 0 < 10)) _ (Nat.mod_lt m (by omega : 0 < 10)) (by simpa using e2)
        omega
/-- The item's name tells path and item. -/
theorem nameK_list (p : ByteArray) (it : Ver) : (nameK p it).toList = p.toList ++ 126 :: (digL it.by_.toNat ++ 46 :: digL it.n.toNat) := by
  unfold nameK digL
  simp only [Lib.toList_data, ByteArray.data_append, Array.toList_append, List.append_assoc, List.cons_append, List.nil_append]
theorem bytes_ext {a b : ByteArray} (h : a.toList = b.toList) : a = b := by
  rw [Lib.toList_data, Lib.toList_data] at h
  cases a; cases b
  simpa using h
theorem nameK_inj {p q : ByteArray} {a b : Ver} (hp : (126 : UInt8) ∉ p.toList) (hq : (126 : UInt8) ∉ q.toList) (ha : 1 ≤ a.by_ ∧ 1 ≤ a.n) (hb : 1 ≤ b.by_ ∧ 1 ≤ b.n) (h : nameK p a = nameK q b) : a = b := by
  have e := congrArg ByteArray.toList h
  rw [nameK_list, nameK_list] at e
  obtain ⟨_, e2⟩ := app_cut _ _ _ _ hp hq e
  have no (n : Nat) : (46 : UInt8) ∉ digL n := fun hm => absurd (dig_mem n 46 hm).1 (by decide)
  obtain ⟨e3, e4⟩ := app_cut _ _ _ _ (no _) (no _) e2
  have e5 := digL_inj _ _ e3
  have e6 := digL_inj _ _ e4
  obtain ⟨a1, a2⟩ := a
  obtain ⟨b1, b2⟩ := b
  simp only [Ver.mk.injEq]
  simp only at *
  omega
theorem nameK_not {p q : ByteArray} {a : Ver} (hq : (126 : UInt8) ∉ q.toList) : nameK p a ≠ q := by
  intro h
  refine hq ?_
  rw [← h, nameK_list]
  simp
end Go.Proofs.Ytjbpdepeimgocaa
namespace Go.Proofs.Ytjbpdepeimgocaa
set_option linter.unusedSimpArgs false
set_option linter.unusedVariables false
open Go.RowKit Go.Sort

/-- The place that Best tells holds the best update. -/
theorem ixK_best (l : List UpdI) (it : Ver) : ∀ i, i ≤ l.length → (ixK l it i = none ∧ bestK (l.take i) it = none) ∨ ∃ m x, ixK l it i = some m ∧ l[m]? = some x ∧ m < i ∧ bestK (l.take i) it = some x := by
  intro i
  induction i with
  | zero => intro _; exact .inl ⟨rfl, by simp [bestK]⟩
  | succ i ih =>
    intro hi
    have h : i < l.length := by omega
    rw [ixK_step h, bestK_take h]
    unfold stepK
    by_cases he : l[i].item = it
    · rw [if_pos he, if_pos he]
      rcases ih (by omega) with ⟨h1, h2⟩ | ⟨m, x, h1, h2, h3, h4⟩
      · rw [h1, h2]
        exact .inr ⟨i, l[i], rfl, List.getElem?_eq_getElem h, by omega, rfl⟩
      · rw [h1, h4]
        simp only [h2]
        by_cases ho : older x.st l[i].st = true
        · rw [if_pos ho, if_pos ho]
          exact .inr ⟨i, l[i], rfl, List.getElem?_eq_getElem h, by omega, rfl⟩
        · rw [if_neg ho, if_neg ho]
          exact .inr ⟨m, x, rfl, h2, by omega, rfl⟩
    · rw [if_neg he, if_neg he]
      rcases ih (by omega) with ⟨h1, h2⟩ | ⟨m, x, h1, h2, h3, h4⟩
      · exact .inl ⟨h1, h2⟩
      · exact .inr ⟨m, x, h1, h2, by omega, h4⟩
theorem alive_mem {l : List UpdI} {u : UpdI} : u ∈ aliveK l ↔ liveB u = true ∧ bestK l u.item = some u := by
  unfold aliveK viewK seenK
  rw [List.mem_filterMap]
  constructor
  · rintro ⟨it, hit, h⟩
    cases hb : bestK l it with
    | none => rw [hb] at h; cases h
    | some x =>
      rw [hb] at h
      by_cases hp : liveB x = true
      · simp only [Option.filter, hp, if_true, Option.some.injEq] at h
        subst h
        have := (bestK_mem l it x hb).2
        exact ⟨hp, by rw [this]; exact hb⟩
      · simp [Option.filter, hp] at h
  · rintro ⟨hp, hb⟩
    exact ⟨u.item, (mem_itemsK l u.item).2 ⟨u, (bestK_mem l _ u hb).1, rfl⟩, by rw [hb]; simp [Option.filter, hp]⟩
theorem alive_items (l : List UpdI) : (aliveK l).Pairwise fun a b => a.item ≠ b.item := by
  unfold aliveK viewK seenK
  rw [List.pairwise_filterMap]
  refine (setL_srt Ver.strict (l.map (·.item))).imp ?_
  intro a b hab x hx y hy e
  have key : ∀ (it : Ver) (u : UpdI), (bestK l it).filter liveB = some u → u.item = it := by
    intro it u h
    cases hb : bestK l it with
    | none => rw [hb] at h; cases h
    | some z =>
      rw [hb] at h
      by_cases hp : liveB z = true
      · simp only [Option.filter, hp, if_true, Option.some.injEq] at h
        subst h
        exact (bestK_mem l it z hb).2
      · simp [Option.filter, hp] at h
  have h1 := key a x hx
  have h2 := key b y hy
  rw [h1, h2] at e
  rw [e] at hab
  rw [Ver.strict.irrefl] at hab
  cases hab
/-- Two live leaves of one name have one stamp and two items. -/
theorem name_same {l : List UpdI} (hR : ∀ u ∈ l, rightU u = true) {a b : UpdI} (ha : a ∈ aliveK l) (hb : b ∈ aliveK l) (hi : a.item ≠ b.item) (hn : (leafOf (aliveK l) a).name = (leafOf (aliveK l) b).name) : a.st = b.st := by
  have ma := (bestK_mem l _ a (alive_mem.1 ha).2).1
  have mb := (bestK_mem l _ b (alive_mem.1 hb).2).1
  have fact : ∀ u ∈ l, (126 : UInt8) ∉ u.p.toList ∧ 1 ≤ u.item.by_ ∧ 1 ≤ u.item.n := by
    intro u hu
    have h := hR u hu
    unfold rightU rightV at h
    simp only [Bool.and_eq_true, decide_eq_true_eq] at h
    exact ⟨right_no h.2.2.2.1, h.1.1, h.1.2.2⟩
  obtain ⟨pa, ia⟩ := fact a ma
  obtain ⟨pb, ib⟩ := fact b mb
  unfold leafOf at hn
  simp only at hn
  by_cases fa : firstB (aliveK l) a = true
  · rw [if_pos fa] at hn
    by_cases fb : firstB (aliveK l) b = true
    · rw [if_pos fb] at hn
      unfold firstB at fa fb
      rw [List.all_eq_true] at fa fb
      have t1 := fa b hb
      have t2 := fb a ha
      unfold takesB at t1 t2
      have e1 : older a.st b.st = false := by simpa [hn, Ne.symm hi] using t1
      have e2 : older b.st a.st = false := by simpa [hn, hi] using t2
      exact older_total e1 e2
    · rw [if_neg fb] at hn
      exact absurd hn.symm (nameK_not pa)
  · rw [if_neg fa] at hn
    by_cases fb : firstB (aliveK l) b = true
    · rw [if_pos fb] at hn
      exact absurd hn (nameK_not pb)
    · rw [if_neg fb] at hn
      exact absurd (nameK_inj pa pb ia ib hn) hi
theorem nodup_le {α : Type} [DecidableEq α] : ∀ (a b : List α), a.Nodup → (∀ x ∈ a, x ∈ b) → a.length ≤ b.length
  | [], b, _, _ => Nat.zero_le _
  | x :: a, b, hn, hs => by
    rw [List.nodup_cons] at hn
    have hx := hs x (by simp)
    have h := nodup_le a (b.erase x) hn.2 fun y hy => by
      have hne : y ≠ x := by rintro rfl; exact hn.1 hy
      rw [List.mem_erase_of_ne hne]
      exact hs y (by simp [hy])
    rw [List.length_erase_of_mem hx] at h
    have := List.length_pos_of_mem hx
    simp only [List.length_cons]
    omega
/-- Is the update at this place its item's best, and alive? -/
def bestB (l : List UpdI) (i : Nat) : Bool := match l[i]? with
  | some u => decide (ixK l u.item l.length = some i) && !u.dead
  | none => false
def liveN (l : List UpdI) (k : Nat) : Nat := ((List.range k).filter (bestB l)).length
theorem liveN_step (l : List UpdI) (k : Nat) : liveN l (k + 1) = liveN l k + (if bestB l k then 1 else 0) := by
  unfold liveN
  rw [List.range_succ, List.filter_append, List.length_append]
  congr 1
  cases h : bestB l k <;> simp [h]
theorem bestB_alive {l : List UpdI} {i : Nat} (h : i < l.length) (hb : bestB l i = true) : l[i] ∈ aliveK l := by
  unfold bestB at hb
  rw [List.getElem?_eq_getElem h] at hb
  simp only [Bool.and_eq_true, decide_eq_true_eq] at hb
  rw [alive_mem]
  refine ⟨hb.2, ?_⟩
  rcases ixK_best l l[i].item l.length (Nat.le_refl _) with ⟨h1, _⟩ | ⟨m, x, h1, h2, h3, h4⟩
  · rw [h1] at hb; cases hb.1
  · rw [h1] at hb
    obtain rfl : m = i := by simpa using hb.1
    rw [List.take_length] at h4
    rw [List.getElem?_eq_getElem h] at h2
    injection h2 with h2
    rw [h4, h2]
theorem liveN_all (l : List UpdI) : liveN l l.length = (aliveK l).length := by
  have hnd : (aliveK l).Nodup := (alive_items l).imp fun h e => h (by rw [e])
  have hmem : ∀ i ∈ (List.range l.length).filter (bestB l), ∃ h : i < l.length, l[i] ∈ aliveK l ∧ ixK l l[i].item l.length = some i := by
    intro i hi
    obtain ⟨h1, h2⟩ := List.mem_filter.1 hi
    have h := List.mem_range.1 h1
    refine ⟨h, bestB_alive h h2, ?_⟩
    unfold bestB at h2
    rw [List.getElem?_eq_getElem h] at h2
    simp only [Bool.and_eq_true, decide_eq_true_eq] at h2
    exact h2.1
  refine Nat.le_antisymm ?_ ?_
  · have h := nodup_le (((List.range l.length).filter (bestB l)).map fun i => (l[i]?).getD upd0) (aliveK l) ?_ ?_
    · rwa [List.length_map] at h
    · rw [List.Nodup, List.pairwise_map]
      refine List.Pairwise.imp_of_mem ?_ ((List.nodup_range (n := l.length)).filter _)
      intro a b ha hb hab e
      obtain ⟨h1, _, h3⟩ := hmem a ha
      obtain ⟨h4, _, h6⟩ := hmem b hb
      rw [List.getElem?_eq_getElem h1, List.getElem?_eq_getElem h4] at e
      simp only [Option.getD_some] at e
      rw [e, h6] at h3
      exact hab (by simpa using h3.symm)
    · intro x hx
      obtain ⟨i, hi, rfl⟩ := List.mem_map.1 hx
      obtain ⟨h1, h2, _⟩ := hmem i hi
      rw [List.getElem?_eq_getElem h1]
      exact h2
  · have h := nodup_le ((aliveK l).map fun u => ((ixK l u.item l.length).getD 0)) ((List.range l.length).filter (bestB l)) ?_ ?_
    · rwa [List.length_map] at h
    all_goals
      have key : ∀ u ∈ aliveK l, ∃ m, ixK l u.item l.length = some m ∧ l[m]? = some u := by
        intro u hu
        have hb := (alive_mem.1 hu).2
        rcases ixK_best l u.item l.length (Nat.le_refl _) with ⟨_, h2⟩ | ⟨m, x, h1, h2, h3, h4⟩
        · rw [List.take_length] at h2; rw [h2] at hb; cases hb
        · rw [List.take_length] at h4
          rw [h4] at hb
          injection hb with hb
          exact ⟨m, h1, by rw [h2, hb]⟩
    · rw [List.Nodup, List.pairwise_map]
      refine List.Pairwise.imp_of_mem ?_ hnd
      intro a b ha hb hab e
      obtain ⟨m, h1, h2⟩ := key a ha
      obtain ⟨n, h3, h4⟩ := key b hb
      rw [h1, h3] at e
      simp only [Option.getD_some] at e
      rw [e, h4] at h2
      injection h2 with h2
      exact hab h2.symm
    · intro x hx
      obtain ⟨u, hu, rfl⟩ := List.mem_map.1 hx
      obtain ⟨m, h1, h2⟩ := key u hu
      have hm : m < l.length := by
        rcases Nat.lt_or_ge m l.length with h | h
        · exact h
        · rw [List.getElem?_eq_none h] at h2; cases h2
      rw [h1]
      refine List.mem_filter.2 ⟨List.mem_range.2 hm, ?_⟩
      show bestB l m = true
      unfold bestB
      rw [h2]
      have hl := (alive_mem.1 hu).1
      unfold liveB at hl
      simp only [h1, decide_true, Bool.true_and]
      exact hl
end Go.Proofs.Ytjbpdepeimgocaa
namespace Go.Proofs.Ytjbpdepeimgocaa
set_option linter.unusedSimpArgs false
set_option linter.unusedVariables false
open Go.RowKit Go.Sort

def ofB (u : UpdI) (x : LeafI) : Bool := decide (x.item = u.item) && (decide (x.path = u.p) && decide (x.d = u.d))
def cntU (u : UpdI) (L : List LeafI) : Nat := (L.filter (ofB u)).length
theorem cntU_take {u : UpdI} {L : List LeafI} {k : Nat} (h : k < L.length) : cntU u (L.take (k + 1)) = cntU u (L.take k) + (if ofB u L[k] then 1 else 0) := by
  unfold cntU
  rw [List.take_succ_eq_append_getElem h, List.filter_append, List.length_append]
  congr 1
  cases h : ofB u L[k] <;> simp [h]
theorem cntU_le (u : UpdI) (L : List LeafI) (k : Nat) : cntU u (L.take k) ≤ k := by
  have h := List.length_filter_le (ofB u) (L.take k)
  rw [List.length_take] at h
  unfold cntU
  omega
theorem one_filter {α : Type} {p : α → Bool} {u : α} : ∀ l : List α, l.Nodup → u ∈ l → p u = true → (∀ x ∈ l, p x = true → x = u) → (l.filter p).length = 1
  | [], _, h, _, _ => absurd h (by simp)
  | a :: l, hn, hu, hp, hx => by
    rw [List.nodup_cons] at hn
    by_cases ha : p a = true
    · have e := hx a (by simp) ha
      rw [List.filter_cons_of_pos ha]
      have : l.filter p = [] := by
        rw [List.filter_eq_nil_iff]
        intro y hy hpy
        have h2 := hx y (by simp [hy]) hpy
        rw [h2, ← e] at hy
        exact hn.1 hy
      rw [this]; rfl
    · rw [List.filter_cons_of_neg ha]
      refine one_filter l hn.2 ?_ hp fun y hy => hx y (by simp [hy])
      rcases List.mem_cons.1 hu with e | e
      · rw [e] at hp; exact absurd hp ha
      · exact e
theorem cntU_one {l : List UpdI} {L : List LeafI} (hp : L.Perm ((aliveK l).map (leafOf (aliveK l)))) {u : UpdI} (hu : u ∈ aliveK l) : cntU u L = 1 := by
  unfold cntU
  rw [(hp.filter (ofB u)).length_eq, List.filter_map, List.length_map]
  have hnd : (aliveK l).Nodup := (alive_items l).imp fun h e => h (by rw [e])
  refine one_filter _ hnd hu (by simp [ofB, leafOf]) fun x hx hb => ?_
  simp only [ofB, leafOf, Function.comp_apply, Bool.and_eq_true, decide_eq_true_eq] at hb
  have h1 := (alive_mem.1 hx).2
  have h2 := (alive_mem.1 hu).2
  rw [of_decide_eq_true hb.1, h2] at h1
  injection h1 with h1
  exact h1.symm
theorem same_no {l : List UpdI} (hR : ∀ u ∈ l, rightU u = true) {L : List LeafI} (hp : L.Perm ((aliveK l).map (leafOf (aliveK l)))) {i k : Nat} (hi : i < L.length) (hk : k < i) (hn : L[i].name = (L[k]'(Nat.lt_trans hk hi)).name) : ¬ Once l := by
  intro ho
  have hpw : ((aliveK l).map (leafOf (aliveK l))).Pairwise fun x y => x.item ≠ y.item := by
    rw [List.pairwise_map]
    exact alive_items l
  have hL : L.Pairwise fun x y => x.item ≠ y.item := (hp.pairwise_iff (fun {x y} h => Ne.symm h)).2 hpw
  have hne := List.pairwise_iff_getElem.1 hL k i (Nat.lt_trans hk hi) hi hk
  obtain ⟨a, ha, ea⟩ := List.mem_map.1 (hp.mem_iff.1 (List.getElem_mem hi))
  obtain ⟨b, hb, eb⟩ := List.mem_map.1 (hp.mem_iff.1 (List.getElem_mem (Nat.lt_trans hk hi)))
  rw [← ea, ← eb] at hn hne
  have hit : a.item ≠ b.item := fun e => hne e.symm
  have hst := name_same hR ha hb hit hn
  have ma := (bestK_mem l _ a (alive_mem.1 ha).2).1
  have mb := (bestK_mem l _ b (alive_mem.1 hb).2).1
  obtain ⟨x, hx, rfl⟩ := List.mem_iff_getElem.1 ma
  obtain ⟨y, hy, rfl⟩ := List.mem_iff_getElem.1 mb
  rcases Nat.lt_trichotomy x y with h | h | h
  · exact ho y x hy h ⟨Ne.symm hit, hst.symm⟩
  · subst h; exact hit rfl
  · exact ho x y hx h ⟨hit, hst⟩
def bZ (l : List UpdI) (it : Ver) : Int := match ixK l it l.length with
  | none => -1
  | some m => (m : Int)
theorem bestX_z {l : List UpdI} {it : Ver} {z : Int} (h : BestX l l.length it z) : z = bZ l it := by
  unfold bZ
  rcases h with ⟨h1, h2⟩ | ⟨m, x, h1, h2, h3⟩
  · rw [h2, h1]
  · rw [h3, h2]
theorem bZ_range (l : List UpdI) (it : Ver) : -1 ≤ bZ l it ∧ bZ l it < l.length + 1 := by
  unfold bZ
  rcases ixK_best l it l.length (Nat.le_refl _) with ⟨h1, _⟩ | ⟨m, x, h1, _, h3, _⟩
  · rw [h1]; dsimp only; omega
  · rw [h1]; dsimp only; omega
theorem rbestZ_c (w : World) (v : Value) (l : List UpdI) (it : Ver) (h : Sl w 8 v (l.map UpdI.cells)) : Calls Try.prog 7 #[v, it.val] w (Ret (.int .i64 (bZ l it)) w) :=
  (rbestX_c w v l it h).mono fun _ _ ⟨_, he, ⟨_, hu, hz⟩, hx⟩ => ⟨by rw [he, hu, bestX_z hz], hx⟩
theorem bestB_z {l : List UpdI} {k : Nat} (h : k < l.length) : bestB l k = (decide (bZ l l[k].item = (k : Int)) && !l[k].dead) := by
  unfold bestB bZ
  rw [List.getElem?_eq_getElem h]
  simp only
  cases e : ixK l l[k].item l.length with
  | none => simp
  | some m =>
    have : decide ((some m : Option Nat) = some k) = decide ((m : Int) = (k : Int)) := by
      apply Bool.eq_iff_iff.2
      simp
      omega
    rw [this]
theorem twice_yes {w : World} {v : Value} {R : List UpdI} (hv : Sl w 8 v (R.map UpdI.cells)) (hn : ¬ Once R) : Calls Try.prog 9 #[v] w (Ret (.bool true) w) :=
  (twice_c w v R hv).mono fun _ _ ⟨_, he, ⟨b, hu, hb⟩, hx⟩ => ⟨by
    rw [he, hu]
    cases b with
    | true => rfl
    | false => exact absurd (hb rfl) hn, hx⟩
end Go.Proofs.Ytjbpdepeimgocaa
