/-
  All prefixes of paths: plain facts.
-/
import Derived.Test.YtfoafookodldfaaUsD
namespace Go.Proofs.Ytfoafookodldfaa
set_option linter.unusedSimpArgs false
set_option linter.unusedVariables false
open Go.RowKit

def Zeros (l : List PairI) : Prop := ∀ p ∈ l, p.n = 0
theorem putK_zeros (s : ByteArray) {l : List PairI} (h : Zeros l) : Zeros (putK s 0 l) := by
  unfold putK
  split
  · intro p hp
    rcases List.mem_or_eq_of_mem_set hp with hp | rfl
    · exact h p hp
    · rfl
  · intro p hp
    rcases List.mem_append.1 hp with hp | hp
    · exact h p (List.mem_of_mem_take hp)
    · rcases List.mem_cons.1 hp with rfl | hp
      · rfl
      · exact h p (List.mem_of_mem_drop hp)
def one1 (l : List PairI) : List PairI := l.map fun p => ⟨p.name, 1⟩
theorem one1_inj {l m : List PairI} (hl : Zeros l) (hm : Zeros m) (h : one1 l = one1 m) : l = m := by
  have h' : l.map (·.name) = m.map (·.name) := by
    have := congrArg (List.map (·.name)) h
    simpa [one1, List.map_map, Function.comp_def] using this
  apply List.ext_getElem
  · have := congrArg List.length h'; simpa using this
  · intro i h1 h2
    have e1 : (l.map (·.name))[i]'(by simpa using h1) = (m.map (·.name))[i]'(by simpa using h2) := by simp only [h']
    simp only [List.getElem_map] at e1
    have e2 := hl _ (List.getElem_mem h1)
    have e3 := hm _ (List.getElem_mem h2)
    generalize l[i] = a at *
    generalize m[i] = b at *
    obtain ⟨an, ak⟩ := a
    obtain ⟨bn, bk⟩ := b
    simp only at e1 e2 e3
    rw [e1, e2, e3]
theorem srt_eq0 {l m : List PairI} (hl : Srt l) (hm : Srt m) (zl : Zeros l) (zm : Zeros m) (h : ∀ t, t ∈ l.map (·.name) ↔ t ∈ m.map (·.name)) : l = m := by
  have e : ∀ q : List PairI, (one1 q).map (·.name) = q.map (·.name) := fun q => by simp [one1, List.map_map, Function.comp_def]
  have s : ∀ q : List PairI, Srt q → Srt (one1 q) := fun q hq => by rw [srt_map, e]; exact (srt_map q).1 hq
  have o : ∀ q : List PairI, Ones (one1 q) := fun q p hp => by
    obtain ⟨x, _, rfl⟩ := List.mem_map.1 hp
    rfl
  exact one1_inj zl zm (srt_eq (s l hl) (s m hm) (o l) (o m) fun t => by rw [e, e]; exact h t)
def putZ (l : List PairI) (xs : List ByteArray) : List PairI := xs.foldl (fun l s => putK s 0 l) l
theorem putZ_append (l : List PairI) (xs ys : List ByteArray) : putZ l (xs ++ ys) = putZ (putZ l xs) ys := by unfold putZ; rw [List.foldl_append]
theorem putZ_facts (l : List PairI) : ∀ (xs : List ByteArray), Srt l → Zeros l → Srt (putZ l xs) ∧ Zeros (putZ l xs) ∧ (putZ l xs).length ≤ l.length + xs.length ∧ ∀ t, t ∈ (putZ l xs).map (·.name) ↔ t ∈ xs ∨ t ∈ l.map (·.name) := by
  intro xs
  induction xs generalizing l with
  | nil => intro h1 h2; exact ⟨h1, h2, by simp [putZ], fun t => by simp [putZ]⟩
  | cons x xs ih =>
    intro h1 h2
    obtain ⟨i1, i2, i3, i4⟩ := ih (putK x 0 l) (putK_srt x 0 h1) (putK_zeros x h2)
    refine ⟨i1, i2, ?_, fun t => ?_⟩
    · have := putK_length x 0 l
      have e : (putZ l (x :: xs)).length = (putZ (putK x 0 l) xs).length := rfl
      rw [e, List.length_cons]; omega
    · have e : putZ l (x :: xs) = putZ (putK x 0 l) xs := rfl
      rw [e, i4, mem_putK x 0 h1, List.mem_cons]
      constructor
      · rintro (h | h | h)
        · exact .inl (.inr h)
        · exact .inl (.inl h)
        · exact .inr h
      · rintro ((h | h) | h)
        · exact .inr (.inl h)
        · exact .inl h
        · exact .inr (.inr h)

/-- a path, what is ahead of its last name, and so on -/
def chainN : Nat → ByteArray → List ByteArray
  | 0, s => [s]
  | n + 1, s => if s.toList.isEmpty then [s] else s :: chainN n (parentK s)
def slashAt (s : ByteArray) (k : Nat) : List ByteArray := if s.toList[k]? = some 47 then [s.extract 0 k] else []
def slashTo (s : ByteArray) : Nat → List ByteArray
  | 0 => []
  | k + 1 => slashTo s k ++ slashAt s k
theorem mem_slashTo (s t : ByteArray) : ∀ k, t ∈ slashTo s k ↔ ∃ j, j < k ∧ s.toList[j]? = some 47 ∧ t = s.extract 0 j
  | 0 => by simp [slashTo]
  | k + 1 => by
    unfold slashTo slashAt
    rw [List.mem_append, mem_slashTo s t k]
    constructor
    · rintro (⟨j, h1, h2⟩ | h)
      · exact ⟨j, by omega, h2⟩
      · split at h
        · rename_i h47
          rw [List.mem_singleton] at h
          exact ⟨k, by omega, h47, h⟩
        · cases h
    · rintro ⟨j, h1, h2, h3⟩
      by_cases hj : j = k
      · subst hj
        right
        rw [if_pos h2, List.mem_singleton]; exact h3
      · exact .inl ⟨j, by omega, h2, h3⟩
theorem slashTo_length (s : ByteArray) : ∀ k, (slashTo s k).length ≤ k
  | 0 => Nat.le_refl _
  | k + 1 => by
    have := slashTo_length s k
    unfold slashTo slashAt
    rw [List.length_append]
    split
    · simp; omega
    · simp; omega
theorem lastK_spec (s : ByteArray) : ∀ k, (lastK s k = -1 ∧ ∀ j, j < k → s.toList[j]? ≠ some 47) ∨ ∃ m : Nat, m < k ∧ lastK s k = m ∧ s.toList[m]? = some 47 ∧ ∀ j, m < j → j < k → s.toList[j]? ≠ some 47
  | 0 => .inl ⟨rfl, fun j h => absurd h (by omega)⟩
  | k + 1 => by
    by_cases h47 : s.toList[k]? = some 47
    · refine .inr ⟨k, by omega, ?_, h47, fun j h1 h2 => by omega⟩
      unfold lastK; rw [if_pos h47]
    · have e : lastK s (k + 1) = lastK s k := by
        show (if s.toList[k]? = some 47 then (k : Int) else lastK s k) = _
        rw [if_neg h47]
      rw [e]
      rcases lastK_spec s k with ⟨h1, h2⟩ | ⟨m, h1, h2, h3, h4⟩
      · refine .inl ⟨h1, fun j hj => ?_⟩
        by_cases hjk : j = k
        · subst hjk; exact h47
        · exact h2 j (by omega)
      · refine .inr ⟨m, by omega, h2, h3, fun j hmj hj => ?_⟩
        by_cases hjk : j = k
        · subst hjk; exact h47
        · exact h4 j hmj (by omega)
theorem nil_toList : (⟨#[]⟩ : ByteArray).toList = [] := by rw [Lib.toList_data]
theorem extract_zero (s : ByteArray) : s.extract 0 0 = ⟨#[]⟩ := toList_inj (by rw [extract_toList, nil_toList]; rfl)
theorem empty_iff (s : ByteArray) : s.toList.isEmpty = true ↔ s = ⟨#[]⟩ := by
  constructor
  · intro h
    refine toList_inj ?_
    rw [nil_toList]
    simpa using h
  · rintro rfl; rw [nil_toList]; rfl
theorem mem_chain : ∀ (n : Nat) (s t : ByteArray), s.size ≤ n → (t ∈ chainN n s ↔ t = s ∨ t = ⟨#[]⟩ ∨ ∃ j, j < s.size ∧ s.toList[j]? = some 47 ∧ t = s.extract 0 j)
  | 0, s, t, h => by
    have hs : s = ⟨#[]⟩ := by
      refine toList_inj ?_
      rw [nil_toList]
      exact List.eq_nil_of_length_eq_zero (by rw [size_toList]; omega)
    subst hs
    unfold chainN
    rw [List.mem_singleton]
    constructor
    · exact .inl
    · rintro (h | h | ⟨j, hj, _⟩)
      · exact h
      · exact h
      · exact absurd hj (by simp [ByteArray.size])
  | n + 1, s, t, h => by
    unfold chainN
    by_cases he : s.toList.isEmpty = true
    · rw [if_pos he, List.mem_singleton]
      have hs := (empty_iff s).1 he
      subst hs
      constructor
      · exact .inl
      · rintro (h | h | ⟨j, hj, _⟩)
        · exact h
        · exact h
        · exact absurd hj (by simp [ByteArray.size])
    · rw [if_neg he, List.mem_cons]
      rcases lastK_spec s s.size with ⟨h1, h2⟩ | ⟨m, h1, h2, h3, h4⟩
      · have hp : parentK s = ⟨#[]⟩ := by unfold parentK; rw [h1]; exact extract_zero s
        rw [hp, mem_chain n _ t (by simp [ByteArray.size])]
        constructor
        · rintro (h | h | h | ⟨j, hj, _⟩)
          · exact .inl h
          · exact .inr (.inl h)
          · exact .inr (.inl h)
          · exact absurd hj (by simp [ByteArray.size])
        · rintro (h | h | ⟨j, hj, h47, _⟩)
          · exact .inl h
          · exact .inr (.inl h)
          · exact absurd h47 (h2 j hj)
      · have hp : parentK s = s.extract 0 m := by unfold parentK; rw [h2, Int.toNat_natCast]
        have hpl : (s.extract 0 m).toList = s.toList.take m := extract_toList s m
        have hps : (s.extract 0 m).size = m := by rw [← size_toList, hpl, List.length_take, size_toList]; omega
        have hx : ∀ j, j < m → (s.extract 0 m).extract 0 j = s.extract 0 j := fun j hj => toList_inj (by rw [extract_toList, hpl, extract_toList, List.take_take, Nat.min_eq_left (by omega)])
        have hg : ∀ j, j < m → (s.extract 0 m).toList[j]? = s.toList[j]? := fun j hj => by rw [hpl, List.getElem?_take, if_pos hj]
        rw [hp, mem_chain n _ t (by omega), hps]
        constructor
        · rintro (h | h | h | ⟨j, hj, h47, h⟩)
          · exact .inl h
          · exact .inr (.inr ⟨m, h1, h3, h⟩)
          · exact .inr (.inl h)
          · exact .inr (.inr ⟨j, by omega, by rw [← hg j hj]; exact h47, by rw [← hx j hj]; exact h⟩)
        · rintro (h | h | ⟨j, hj, h47, h⟩)
          · exact .inl h
          · exact .inr (.inr (.inl h))
          · rcases Nat.lt_trichotomy j m with hjm | hjm | hjm
            · exact .inr (.inr (.inr ⟨j, hjm, by rw [hg j hjm]; exact h47, by rw [hx j hjm]; exact h⟩))
            · subst hjm; exact .inr (.inl h)
            · exact absurd h47 (h4 j hjm hj)
theorem chain_length : ∀ (n : Nat) (s : ByteArray), (chainN n s).length ≤ n + 1
  | 0, s => Nat.le_refl _
  | n + 1, s => by
    unfold chainN
    split
    · simp
    · have := chain_length n (parentK s)
      rw [List.length_cons]; omega
theorem parent_size {s : ByteArray} (h : ¬ s.toList.isEmpty = true) : (parentK s).size < s.size := by
  obtain ⟨b1, b2⟩ := lastK_bounds s s.size
  have hs : 0 < s.size := by
    rw [← size_toList]
    simp only [List.isEmpty_iff] at h
    exact List.length_pos_iff.2 h
  unfold parentK
  rw [← size_toList, extract_toList, List.length_take, size_toList]
  omega

def base0 : List PairI := [⟨⟨#[]⟩, 0⟩]
/-- the program's names, and the document's -/
def preK (l : List LeafI) : List PairI := l.foldl (fun q x => putZ q (chainN x.path.size x.path)) base0
def rpreK (l : List LeafI) : List PairI := l.foldl (fun q x => putZ (putK x.path 0 q) (slashTo x.path x.path.size)) base0
theorem base0_srt : Srt base0 := List.pairwise_singleton _ _
theorem base0_zeros : Zeros base0 := fun p hp => by rw [List.mem_singleton.1 hp]
theorem pre_same : ∀ (l : List LeafI) (q : List PairI), Srt q → Zeros q → (⟨#[]⟩ : ByteArray) ∈ q.map (·.name) → l.foldl (fun q x => putZ q (chainN x.path.size x.path)) q = l.foldl (fun q x => putZ (putK x.path 0 q) (slashTo x.path x.path.size)) q
  | [], q, _, _, _ => rfl
  | x :: l, q, h1, h2, h3 => by
    obtain ⟨a1, a2, _, a4⟩ := putZ_facts q (chainN x.path.size x.path) h1 h2
    obtain ⟨b1, b2, _, b4⟩ := putZ_facts (putK x.path 0 q) (slashTo x.path x.path.size) (putK_srt _ _ h1) (putK_zeros _ h2)
    have e : putZ q (chainN x.path.size x.path) = putZ (putK x.path 0 q) (slashTo x.path x.path.size) := srt_eq0 a1 b1 a2 b2 fun t => by
      rw [a4, b4, mem_putK _ _ h1, mem_chain _ _ _ (Nat.le_refl _), mem_slashTo]
      constructor
      · rintro ((h | h | h) | h)
        · exact .inr (.inl h)
        · rw [h]; exact .inr (.inr h3)
        · exact .inl h
        · exact .inr (.inr h)
      · rintro (h | h | h)
        · exact .inl (.inr (.inr h))
        · exact .inl (.inl h)
        · exact .inr h
    rw [List.foldl_cons, List.foldl_cons, ← e]
    exact pre_same l _ a1 a2 ((a4 _).2 (.inr h3))
theorem pre_eq (l : List LeafI) : rpreK l = preK l := (pre_same l base0 base0_srt base0_zeros (by simp [base0])).symm
theorem pre_take (l : List LeafI) (k : Nat) (h : k < l.length) : preK (l.take (k + 1)) = putZ (preK (l.take k)) (chainN l[k].path.size l[k].path) := by
  unfold preK
  rw [List.take_succ_eq_append_getElem h, List.foldl_append]; rfl
theorem rpre_take (l : List LeafI) (k : Nat) (h : k < l.length) : rpreK (l.take (k + 1)) = putZ (putK l[k].path 0 (rpreK (l.take k))) (slashTo l[k].path l[k].path.size) := by
  unfold rpreK
  rw [List.take_succ_eq_append_getElem h, List.foldl_append]; rfl
theorem pre_facts (l : List LeafI) : Srt (preK l) ∧ Zeros (preK l) := by
  unfold preK
  suffices ∀ (l : List LeafI) (q : List PairI), Srt q → Zeros q → Srt (l.foldl (fun q x => putZ q (chainN x.path.size x.path)) q) ∧ Zeros (l.foldl (fun q x => putZ q (chainN x.path.size x.path)) q) from this l base0 base0_srt base0_zeros
  intro l
  induction l with
  | nil => intro q h1 h2; exact ⟨h1, h2⟩
  | cons x l ih =>
    intro q h1 h2
    obtain ⟨a1, a2, _, _⟩ := putZ_facts q (chainN x.path.size x.path) h1 h2
    exact ih _ a1 a2
theorem pre_length {l : List LeafI} (h : ∀ x ∈ l, x.path.size ≤ 1000) : (preK l).length ≤ 1 + l.length * 1001 := by
  unfold preK
  suffices ∀ (l : List LeafI) (q : List PairI), (∀ x ∈ l, x.path.size ≤ 1000) → Srt q → Zeros q → (l.foldl (fun q x => putZ q (chainN x.path.size x.path)) q).length ≤ q.length + l.length * 1001 from this l base0 h base0_srt base0_zeros
  intro l
  induction l with
  | nil => intro q _ _ _; simp
  | cons x l ih =>
    intro q h h1 h2
    obtain ⟨a1, a2, a3, _⟩ := putZ_facts q (chainN x.path.size x.path) h1 h2
    have := ih _ (fun y hy => h y (by simp [hy])) a1 a2
    have hc := chain_length x.path.size x.path
    have hx := h x (by simp)
    have e : (x :: l).length * 1001 = l.length * 1001 + 1001 := by rw [List.length_cons, Nat.succ_mul]
    rw [List.foldl_cons, e]
    generalize (List.foldl (fun q x => putZ q (chainN x.path.size x.path)) (putZ q (chainN x.path.size x.path)) l).length = z at *
    omega
end Go.Proofs.Ytfoafookodldfaa
