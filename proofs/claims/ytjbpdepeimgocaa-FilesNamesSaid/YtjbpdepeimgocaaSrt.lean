/-
  Lists in strict order: put one in, the same members the same list, runs of equals cut. Plain facts.
-/
import Derived.Test.YtjbpdepeimgocaaBase
import Derived.Lib.SlicesCompact
namespace Go.Proofs.Ytjbpdepeimgocaa
set_option linter.unusedSimpArgs false
set_option linter.unusedVariables false

/-- A strict order in which of two that are not one either is ahead. -/
structure Strict {α : Type} (lt : α → α → Bool) : Prop where
  irrefl : ∀ a, lt a a = false
  trans : ∀ a b c, lt a b = true → lt b c = true → lt a c = true
  total : ∀ a b, lt a b = false → a ≠ b → lt b a = true

section
variable {α : Type} {lt : α → α → Bool}
theorem Strict.asymm (hs : Strict lt) {a b : α} (h : lt a b = true) : lt b a = false := by
  cases k : lt b a with
  | false => rfl
  | true => have := hs.trans _ _ _ h k; rw [hs.irrefl] at this; cases this
def SrtL (lt : α → α → Bool) (l : List α) : Prop := l.Pairwise fun a b => lt a b = true
theorem srtL_eq (hs : Strict lt) : ∀ {l m : List α}, SrtL lt l → SrtL lt m → (∀ x, x ∈ l ↔ x ∈ m) → l = m
  | [], [], _, _, _ => rfl
  | [], y :: m, _, _, h => absurd ((h y).2 (by simp)) (by simp)
  | x :: l, [], _, _, h => absurd ((h x).1 (by simp)) (by simp)
  | x :: l, y :: m, hl, hm, h => by
    obtain ⟨hx, hl'⟩ := List.pairwise_cons.1 hl
    obtain ⟨hy, hm'⟩ := List.pairwise_cons.1 hm
    have hxy : x = y := by
      rcases List.mem_cons.1 ((h x).1 (by simp)) with e | e
      · exact e
      · rcases List.mem_cons.1 ((h y).2 (by simp)) with e2 | e2
        · exact e2.symm
        · have := hs.asymm (hx y e2); rw [hy x e] at this; cases this
    subst hxy
    rw [srtL_eq hs hl' hm' fun z => ?_]
    constructor
    · intro hz
      rcases List.mem_cons.1 ((h z).1 (by simp [hz])) with e | e
      · subst e; have := hx z hz; rw [hs.irrefl] at this; cases this
      · exact e
    · intro hz
      rcases List.mem_cons.1 ((h z).2 (by simp [hz])) with e | e
      · subst e; have := hy z hz; rw [hs.irrefl] at this; cases this
      · exact e

/-- How many are ahead of x. -/
def rankL (lt : α → α → Bool) (x : α) : List α → Nat
  | [] => 0
  | y :: l => if lt y x then rankL lt x l + 1 else 0
theorem rankL_le (x : α) : ∀ l : List α, rankL lt x l ≤ l.length
  | [] => Nat.le_refl _
  | y :: l => by
    unfold rankL
    split
    · have := rankL_le x l; simp; omega
    · simp
theorem rankL_lt (x : α) : ∀ (l : List α) (k : Nat) (h : k < l.length), k < rankL lt x l → lt l[k] x = true
  | y :: l, k, h, hk => by
    unfold rankL at hk
    split at hk
    · rename_i hy
      cases k with
      | zero => exact hy
      | succ k => exact rankL_lt x l k (by simpa using h) (by omega)
    · omega
theorem rankL_at (x : α) : ∀ (l : List α) (h : rankL lt x l < l.length), lt l[rankL lt x l] x = false
  | y :: l, h => by
    by_cases hy : lt y x = true
    · have e : rankL lt x (y :: l) = rankL lt x l + 1 := by simp [rankL, hy]
      have h' : rankL lt x l < l.length := by rw [e] at h; simpa using h
      have := rankL_at x l h'
      simp only [e, List.getElem_cons_succ]
      exact this
    · have e : rankL lt x (y :: l) = 0 := by simp [rankL, hy]
      simp only [e, List.getElem_cons_zero]
      simpa using hy

variable [DecidableEq α]
/-- One more, each once. -/
def insL (lt : α → α → Bool) (x : α) (l : List α) : List α := if l[rankL lt x l]? = some x then l else l.take (rankL lt x l) ++ x :: l.drop (rankL lt x l)
theorem insL_length (x : α) (l : List α) : (insL lt x l).length ≤ l.length + 1 := by
  have := rankL_le (lt := lt) x l
  unfold insL
  split
  · omega
  · simp; omega
theorem mem_insL (x z : α) (l : List α) : z ∈ insL lt x l ↔ z ∈ l ∨ z = x := by
  unfold insL
  split
  · rename_i h
    constructor
    · exact .inl
    · rintro (h | rfl)
      · exact h
      · exact List.mem_of_getElem? h
  · have e : z ∈ l ↔ z ∈ l.take (rankL lt x l) ∨ z ∈ l.drop (rankL lt x l) := by
      conv => lhs; rw [← List.take_append_drop (rankL lt x l) l]
      exact List.mem_append
    rw [e, List.mem_append, List.mem_cons]
    constructor
    · rintro (h | h | h)
      · exact .inl (.inl h)
      · exact .inr h
      · exact .inl (.inr h)
    · rintro ((h | h) | h)
      · exact .inl h
      · exact .inr (.inr h)
      · exact .inr (.inl h)
omit [DecidableEq α] in
theorem rankL_split (hs : Strict lt) {l : List α} (hl : SrtL lt l) (x : α) : (∀ z ∈ l.take (rankL lt x l), lt z x = true) ∧ (∀ z ∈ l.drop (rankL lt x l), lt z x = false) := by
  constructor
  · intro z hz
    obtain ⟨k, hk, rfl⟩ := List.getElem_of_mem hz
    rw [List.length_take] at hk
    rw [List.getElem_take]
    exact rankL_lt x l k (by omega) (by omega)
  · intro z hz
    obtain ⟨k, hk, rfl⟩ := List.getElem_of_mem hz
    rw [List.length_drop] at hk
    rw [List.getElem_drop]
    have h0 := rankL_at (lt := lt) x l (by omega)
    by_cases hk0 : k = 0
    · subst hk0; exact h0
    · have h1 := List.pairwise_iff_getElem.1 hl (rankL lt x l) (rankL lt x l + k) (by omega) (by omega) (by omega)
      cases h2 : lt l[rankL lt x l + k] x with
      | false => rfl
      | true => have := hs.trans _ _ _ h1 h2; rw [h0] at this; cases this
theorem insL_srt (hs : Strict lt) {l : List α} (hl : SrtL lt l) (x : α) : SrtL lt (insL lt x l) := by
  obtain ⟨h1, h2⟩ := rankL_split hs hl x
  unfold insL
  split
  · exact hl
  · rename_i hne
    have hd : ∀ z ∈ l.drop (rankL lt x l), lt x z = true := by
      intro z hz
      refine hs.total _ _ (h2 z hz) ?_
      rintro rfl
      obtain ⟨k, hk, he⟩ := List.getElem_of_mem hz
      rw [List.length_drop] at hk
      rw [List.getElem_drop] at he
      have h0 := rankL_at (lt := lt) z l (by omega)
      by_cases hk0 : k = 0
      · subst hk0
        exact hne (by rw [List.getElem?_eq_getElem (by omega)]; exact congrArg some he)
      · have := List.pairwise_iff_getElem.1 hl (rankL lt z l) (rankL lt z l + k) (by omega) (by omega) (by omega)
        rw [he, h0] at this; cases this
    refine List.pairwise_append.2 ⟨hl.sublist (List.take_sublist _ _), List.pairwise_cons.2 ⟨hd, hl.sublist (List.drop_sublist _ _)⟩, fun a ha b hb => ?_⟩
    rcases List.mem_cons.1 hb with rfl | hb
    · exact h1 a ha
    · exact hs.trans _ _ _ (h1 a ha) (hd b hb)

/-- All put in, one after the other. -/
def setL (lt : α → α → Bool) (l : List α) : List α := l.foldl (fun acc x => insL lt x acc) []
theorem foldl_insL (hs : Strict lt) : ∀ (l acc : List α), SrtL lt acc → SrtL lt (l.foldl (fun acc x => insL lt x acc) acc) ∧ (∀ z, z ∈ l.foldl (fun acc x => insL lt x acc) acc ↔ z ∈ acc ∨ z ∈ l) ∧ (l.foldl (fun acc x => insL lt x acc) acc).length ≤ acc.length + l.length
  | [], acc, h => ⟨h, fun z => by simp, by simp⟩
  | x :: l, acc, h => by
    obtain ⟨h1, h2, h3⟩ := foldl_insL hs l (insL lt x acc) (insL_srt hs h x)
    refine ⟨h1, fun z => ?_, ?_⟩
    · rw [List.foldl_cons, h2, mem_insL, List.mem_cons]
      constructor
      · rintro ((h | h) | h)
        · exact .inl h
        · exact .inr (.inl h)
        · exact .inr (.inr h)
      · rintro (h | h | h)
        · exact .inl (.inl h)
        · exact .inl (.inr h)
        · exact .inr h
    · rw [List.foldl_cons]
      have := insL_length (lt := lt) x acc
      simp only [List.length_cons]
      omega
theorem setL_srt (hs : Strict lt) (l : List α) : SrtL lt (setL lt l) := (foldl_insL hs l [] List.Pairwise.nil).1
theorem mem_setL (hs : Strict lt) (l : List α) (z : α) : z ∈ setL lt l ↔ z ∈ l := by have := (foldl_insL hs l [] List.Pairwise.nil).2.1 z; simpa [setL] using this
theorem setL_length (hs : Strict lt) (l : List α) : (setL lt l).length ≤ l.length := by have := (foldl_insL hs l [] List.Pairwise.nil).2.2; simpa [setL] using this
theorem setL_snoc (l : List α) (x : α) : setL lt (l ++ [x]) = insL lt x (setL lt l) := by unfold setL; rw [List.foldl_append]; rfl
theorem setL_take (l : List α) (k : Nat) (h : k < l.length) : setL lt (l.take (k + 1)) = insL lt l[k] (setL lt (l.take k)) := by rw [List.take_succ_eq_append_getElem h, setL_snoc]

section
variable [Inhabited α]
theorem mem_compact (d : Array α) (z : α) : z ∈ Lib.compactUpTo d d.size ↔ z ∈ d.toList := by
  unfold Lib.compactUpTo
  simp only [List.mem_map, List.mem_filter, List.mem_range]
  constructor
  · rintro ⟨i, ⟨hi, _⟩, rfl⟩
    rw [getElem!_pos d i hi]
    simp
  · intro hz
    obtain ⟨i, hi, rfl⟩ := List.getElem_of_mem hz
    simp only [Array.length_toList] at hi
    have key : ∀ k, (h : k < d.size) → ∃ i, (i < d.size ∧ Lib.keeps d i = true) ∧ d[i]! = d[k] := by
      intro k
      induction k with
      | zero => intro h; exact ⟨0, ⟨h, Lib.keeps_lt_one d 0 (by omega)⟩, getElem!_pos d 0 h⟩
      | succ k ih =>
        intro h
        by_cases e : d[k + 1]! = d[k]!
        · obtain ⟨i, h1, h2⟩ := ih (by omega)
          rw [getElem!_pos d (k + 1) h, getElem!_pos d k (by omega)] at e
          exact ⟨i, h1, h2.trans e.symm⟩
        · exact ⟨k + 1, ⟨h, Lib.keeps_pos e⟩, getElem!_pos d (k + 1) h⟩
    obtain ⟨i', h1, h2⟩ := key i hi
    exact ⟨i', h1, by simpa using h2⟩
theorem compact_srt (hs : Strict lt) {d : Array α} (hd : ∀ i j, i < j → j < d.size → lt d[j]! d[i]! = false) : SrtL lt (Lib.compactUpTo d d.size) := by
  unfold Lib.compactUpTo SrtL
  rw [List.pairwise_map]
  refine (List.Pairwise.imp_of_mem ?_ (List.Pairwise.filter (Lib.keeps d) (List.pairwise_lt_range (n := d.size))))
  intro i j hi hj hij
  have hj' := List.mem_filter.1 hj
  have hjs : j < d.size := List.mem_range.1 hj'.1
  have hk : j = 0 ∨ d[j]! ≠ d[j - 1]! := by simpa [Lib.keeps] using hj'.2
  have hne : d[j]! ≠ d[j - 1]! := by rcases hk with h | h; omega; exact h
  have h1 : lt d[j - 1]! d[j]! = true := hs.total _ _ (hd (j - 1) j (by omega) hjs) hne
  by_cases e : i = j - 1
  · rw [e]; exact h1
  · have h2 := hd i (j - 1) (by omega) (by omega)
    by_cases e2 : d[i]! = d[j - 1]!
    · rw [e2]; exact h1
    · exact hs.trans _ _ _ (hs.total _ _ h2 (Ne.symm e2)) h1
theorem compact_sorted (hs : Strict lt) {l m : List α} (hp : m.Perm l) (hm : m.Pairwise (fun x y => lt y x = false)) : Lib.compact m = setL lt l := by
  have e : Lib.compact m = Lib.compactUpTo m.toArray m.toArray.size := by unfold Lib.compact; rw [List.size_toArray]
  rw [e]
  refine srtL_eq hs (compact_srt hs fun i j hij hj => ?_) (setL_srt hs l) fun z => by rw [mem_compact, mem_setL hs, ← hp.mem_iff]
  have hj' : j < m.length := by simpa using hj
  have := List.pairwise_iff_getElem.1 hm i j (by omega) hj' hij
  rw [getElem!_pos m.toArray j hj, getElem!_pos m.toArray i (by omega)]
  simpa using this
end
end
end Go.Proofs.Ytjbpdepeimgocaa
