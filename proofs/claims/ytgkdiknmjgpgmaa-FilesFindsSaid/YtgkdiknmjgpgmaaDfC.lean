/-
  What became of files leads there: plain facts.
-/
import Derived.Test.YtgkdiknmjgpgmaaDfB
namespace Go.Proofs.Ytgkdiknmjgpgmaa
set_option linter.unusedSimpArgs false
set_option linter.unusedVariables false

abbrev SMap := ByteArray → Option ByteArray
def putM (m : SMap) (k v : ByteArray) : SMap := fun n => if n = k then some v else m n
def delM (m : SMap) (k : ByteArray) : SMap := fun n => if n = k then none else m n
theorem put_no {α : Type} (f g : α → ByteArray) (n : ByteArray) : ∀ (L : List α) (m : SMap), (∀ x ∈ L, f x ≠ n) → (L.foldl (fun m x => putM m (f x) (g x)) m) n = m n
  | [], _, _ => rfl
  | x :: L, m, h => by
    rw [List.foldl_cons, put_no f g n L _ fun y hy => h y (by simp [hy])]
    unfold putM
    rw [if_neg fun e => h x (by simp) e.symm]
theorem put_yes {α : Type} (f g : α → ByteArray) (n v : ByteArray) : ∀ (L : List α) (m : SMap), (∀ x ∈ L, f x = n → g x = v) → (∃ x ∈ L, f x = n) → (L.foldl (fun m x => putM m (f x) (g x)) m) n = some v
  | [], _, _, h => by obtain ⟨x, hx, _⟩ := h; cases hx
  | x :: L, m, hc, h => by
    rw [List.foldl_cons]
    by_cases e : ∃ y ∈ L, f y = n
    · exact put_yes f g n v L _ (fun y hy => hc y (by simp [hy])) e
    · rw [put_no f g n L _ fun y hy hn => e ⟨y, hy, hn⟩]
      obtain ⟨y, hy, hn⟩ := h
      rcases List.mem_cons.1 hy with rfl | hy
      · unfold putM
        rw [if_pos hn.symm, hc y (by simp) hn]
      · exact absurd ⟨y, hy, hn⟩ e
theorem del_no {α : Type} (f : α → ByteArray) (n : ByteArray) : ∀ (L : List α) (m : SMap), (∀ x ∈ L, f x ≠ n) → (L.foldl (fun m x => delM m (f x)) m) n = m n
  | [], _, _ => rfl
  | x :: L, m, h => by
    rw [List.foldl_cons, del_no f n L _ fun y hy => h y (by simp [hy])]
    unfold delM
    rw [if_neg fun e => h x (by simp) e.symm]
theorem del_none {α : Type} (f : α → ByteArray) (n : ByteArray) : ∀ (L : List α) (m : SMap), m n = none → (L.foldl (fun m x => delM m (f x)) m) n = none
  | [], _, h => h
  | x :: L, m, h => by
    rw [List.foldl_cons]
    refine del_none f n L _ ?_
    unfold delM
    split
    · rfl
    · exact h
theorem del_yes {α : Type} (f : α → ByteArray) (n : ByteArray) : ∀ (L : List α) (m : SMap), (∃ x ∈ L, f x = n) → (L.foldl (fun m x => delM m (f x)) m) n = none
  | [], _, h => by obtain ⟨x, hx, _⟩ := h; cases hx
  | x :: L, m, h => by
    rw [List.foldl_cons]
    obtain ⟨y, hy, hn⟩ := h
    rcases List.mem_cons.1 hy with rfl | hy
    · refine del_none f n L _ ?_
      unfold delM
      rw [if_pos hn.symm]
    · exact del_yes f n L _ ⟨y, hy, hn⟩

def kindB (k1 k2 : Int) (t : TurnI) : Bool := decide (t.kind = k1 ∨ t.kind = k2)
def wasM (a : List LeafI) : SMap := a.foldl (fun m x => putM m x.name x.d) (fun _ => none)
def getM (m : SMap) (n : ByteArray) : ByteArray := (m n).getD ⟨#[]⟩
def play1 (l : List TurnI) (m : SMap) : SMap := (l.filter (kindB 2 0)).foldl (fun m t => delM m t.name) m
def play2 (l : List TurnI) (m : SMap) : SMap := (l.filter (kindB 4 0)).foldl (fun m t => delM m t.from_) m
def play3 (was : SMap) (l : List TurnI) (m : SMap) : SMap := (l.filter (kindB 4 0)).foldl (fun m t => putM m t.name (getM was t.from_)) m
def play4 (l : List TurnI) (m : SMap) : SMap := (l.filter (kindB 3 1)).foldl (fun m t => putM m t.name t.d) m
def playM (a : List LeafI) (l : List TurnI) : SMap := play4 l (play3 (wasM a) l (play2 l (play1 l (wasM a))))

theorem rising_lt {l : List LeafI} (h : Rising l) : ∀ i j (hi : i < l.length) (hj : j < l.length), i < j → blt l[i].name l[j].name = true := by
  intro i j
  induction j with
  | zero => intro _ _ h; omega
  | succ j ih =>
    intro hi hj hij
    have h1 := h j hj
    by_cases e : i = j
    · subst e; exact h1
    · exact blt_trans (ih hi (by omega) (by omega)) h1
theorem rising_uniq {l : List LeafI} (h : Rising l) {x y : LeafI} (hx : x ∈ l) (hy : y ∈ l) (e : x.name = y.name) : x = y := by
  obtain ⟨i, hi, rfl⟩ := List.getElem_of_mem hx
  obtain ⟨j, hj, rfl⟩ := List.getElem_of_mem hy
  rcases Nat.lt_trichotomy i j with h1 | h1 | h1
  · have := rising_lt h i j hi hj h1
    rw [e, blt_irrefl] at this; cases this
  · subst h1; rfl
  · have := rising_lt h j i hj hi h1
    rw [e, blt_irrefl] at this; cases this
theorem findK_mem {l : List LeafI} (h : Once l) {x : LeafI} (hx : x ∈ l) : findK l x.item = some x := by
  obtain ⟨i, hi, rfl⟩ := List.getElem_of_mem hx
  unfold findK
  rw [h i hi, List.getElem?_eq_getElem hi]
theorem findK_some {l : List LeafI} {it : Ver} {x : LeafI} (h : findK l it = some x) : x ∈ l ∧ x.item = it := by
  unfold findK at h
  obtain ⟨hlt, rfl⟩ := List.getElem?_eq_some_iff.1 h
  exact ⟨List.getElem_mem hlt, placeK_at it l hlt⟩
theorem findK_none {l : List LeafI} {it : Ver} (h : findK l it = none) : ∀ x ∈ l, x.item ≠ it := fun x hx e => by
  have := placeK_lt.2 ⟨x, hx, e⟩
  unfold findK at h
  rw [List.getElem?_eq_getElem this] at h
  cases h
theorem mem_turns {a b : List LeafI} {t : TurnI} : t ∈ allTurns a b ↔ ∃ it ∈ itemsL (a ++ b), t ∈ turnsK (findK a it) (findK b it) := by
  unfold allTurns
  rw [List.mem_flatMap]
theorem item_in {a b : List LeafI} {x : LeafI} (h : x ∈ a ∨ x ∈ b) : x.item ∈ itemsL (a ++ b) := (mem_itemsL _ _).2 ⟨x, List.mem_append.2 h, rfl⟩
/-- the turns by kinds -/
theorem mem_drop {a b : List LeafI} (ha : Once a) {n : ByteArray} : (∃ t ∈ (allTurns a b).filter (kindB 2 0), t.name = n) ↔ ∃ x ∈ a, x.name = n ∧ findK b x.item = none := by
  constructor
  · rintro ⟨t, ht, rfl⟩
    obtain ⟨h1, h2⟩ := List.mem_filter.1 ht
    obtain ⟨it, hit, hm⟩ := mem_turns.1 h1
    simp only [kindB, decide_eq_true_eq] at h2
    cases hx : findK a it with
    | none =>
      cases hy : findK b it with
      | none =>
        obtain ⟨x, hx', e⟩ := (mem_itemsL _ it).1 hit
        rcases List.mem_append.1 hx' with h | h
        · exact absurd e (findK_none hx x h)
        · exact absurd e (findK_none hy x h)
      | some y =>
        rw [hx, hy] at hm
        simp only [turnsK, List.mem_singleton] at hm
        subst hm
        simp at h2
    | some x =>
      obtain ⟨hxa, rfl⟩ := findK_some hx
      cases hy : findK b x.item with
      | none =>
        rw [hx, hy] at hm
        simp only [turnsK, List.mem_singleton] at hm
        subst hm
        exact ⟨x, hxa, rfl, hy⟩
      | some y =>
        rw [hx, hy] at hm
        simp only [turnsK, List.mem_append] at hm
        rcases hm with hm | hm
        · split at hm
          · cases hm
          · rw [List.mem_singleton] at hm; subst hm; simp at h2
        · split at hm
          · cases hm
          · rw [List.mem_singleton] at hm; subst hm; simp at h2
  · rintro ⟨x, hx, rfl, hn⟩
    refine ⟨⟨2, x.name, ⟨#[]⟩, ⟨#[]⟩⟩, List.mem_filter.2 ⟨mem_turns.2 ⟨x.item, item_in (.inl hx), ?_⟩, rfl⟩, rfl⟩
    rw [findK_mem ha hx, hn]
    simp [turnsK]
theorem mem_move {a b : List LeafI} (ha : Once a) (hb : Once b) {t : TurnI} : t ∈ (allTurns a b).filter (kindB 4 0) ↔ ∃ x ∈ a, ∃ y ∈ b, x.item = y.item ∧ x.name ≠ y.name ∧ t = ⟨4, y.name, x.name, ⟨#[]⟩⟩ := by
  constructor
  · intro ht
    obtain ⟨h1, h2⟩ := List.mem_filter.1 ht
    obtain ⟨it, hit, hm⟩ := mem_turns.1 h1
    simp only [kindB, decide_eq_true_eq] at h2
    cases hx : findK a it with
    | none =>
      cases hy : findK b it with
      | none =>
        rw [hx, hy] at hm
        simp only [turnsK, List.mem_singleton] at hm
        subst hm
        simp at h2
      | some y =>
        rw [hx, hy] at hm
        simp only [turnsK, List.mem_singleton] at hm
        subst hm
        simp at h2
    | some x =>
      obtain ⟨hxa, rfl⟩ := findK_some hx
      cases hy : findK b x.item with
      | none =>
        rw [hx, hy] at hm
        simp only [turnsK, List.mem_singleton] at hm
        subst hm
        simp at h2
      | some y =>
        obtain ⟨hyb, hyi⟩ := findK_some hy
        rw [hx, hy] at hm
        simp only [turnsK, List.mem_append] at hm
        rcases hm with hm | hm
        · split at hm
          · cases hm
          · rename_i hne
            rw [List.mem_singleton] at hm
            exact ⟨x, hxa, y, hyb, hyi.symm, hne, hm⟩
        · split at hm
          · cases hm
          · rw [List.mem_singleton] at hm; subst hm; simp at h2
  · rintro ⟨x, hx, y, hy, hi, hne, rfl⟩
    refine List.mem_filter.2 ⟨mem_turns.2 ⟨x.item, item_in (.inl hx), ?_⟩, rfl⟩
    rw [findK_mem ha hx, hi, findK_mem hb hy]
    simp [turnsK, hne]
theorem mem_data {a b : List LeafI} (ha : Once a) (hb : Once b) {t : TurnI} : t ∈ (allTurns a b).filter (kindB 3 1) ↔ ∃ y ∈ b, t.name = y.name ∧ t.d = y.d ∧ ((findK a y.item = none ∧ t = ⟨1, y.name, ⟨#[]⟩, y.d⟩) ∨ (∃ x ∈ a, x.item = y.item ∧ x.d ≠ y.d ∧ t = ⟨3, y.name, ⟨#[]⟩, y.d⟩)) := by
  constructor
  · intro ht
    obtain ⟨h1, h2⟩ := List.mem_filter.1 ht
    obtain ⟨it, hit, hm⟩ := mem_turns.1 h1
    simp only [kindB, decide_eq_true_eq] at h2
    cases hx : findK a it with
    | none =>
      cases hy : findK b it with
      | none =>
        rw [hx, hy] at hm
        simp only [turnsK, List.mem_singleton] at hm
        subst hm
        simp at h2
      | some y =>
        obtain ⟨hyb, rfl⟩ := findK_some hy
        rw [hx, hy] at hm
        simp only [turnsK, List.mem_singleton] at hm
        subst hm
        exact ⟨y, hyb, rfl, rfl, .inl ⟨hx, rfl⟩⟩
    | some x =>
      obtain ⟨hxa, rfl⟩ := findK_some hx
      cases hy : findK b x.item with
      | none =>
        rw [hx, hy] at hm
        simp only [turnsK, List.mem_singleton] at hm
        subst hm
        simp at h2
      | some y =>
        obtain ⟨hyb, hyi⟩ := findK_some hy
        rw [hx, hy] at hm
        simp only [turnsK, List.mem_append] at hm
        rcases hm with hm | hm
        · split at hm
          · cases hm
          · rw [List.mem_singleton] at hm; subst hm; simp at h2
        · split at hm
          · cases hm
          · rename_i hne
            rw [List.mem_singleton] at hm
            subst hm
            exact ⟨y, hyb, rfl, rfl, .inr ⟨x, hxa, hyi.symm, hne, rfl⟩⟩
  · rintro ⟨y, hy, _, _, (⟨hn, rfl⟩ | ⟨x, hx, hi, hne, rfl⟩)⟩
    · refine List.mem_filter.2 ⟨mem_turns.2 ⟨y.item, item_in (.inr hy), ?_⟩, rfl⟩
      rw [findK_mem hb hy, hn]
      simp [turnsK]
    · refine List.mem_filter.2 ⟨mem_turns.2 ⟨x.item, item_in (.inl hx), ?_⟩, rfl⟩
      rw [findK_mem ha hx, hi, findK_mem hb hy]
      simp [turnsK, hne]

theorem was_some {a : List LeafI} (ha : Rising a) {x : LeafI} (hx : x ∈ a) : wasM a x.name = some x.d :=
  put_yes (fun x : LeafI => x.name) (fun x => x.d) x.name x.d a _ (fun y hy e => by rw [rising_uniq ha hy hx e]) ⟨x, hx, rfl⟩
theorem was_none {a : List LeafI} {n : ByteArray} (h : ∀ x ∈ a, x.name ≠ n) : wasM a n = none := put_no (fun x : LeafI => x.name) (fun x => x.d) n a _ h
/-- A listing as a map. -/
theorem play_all {a b : List LeafI} (ra : Rising a) (rb : Rising b) (ha : Once a) (hb : Once b) (n : ByteArray) : playM a (allTurns a b) n = wasM b n := by
  have h1n : ∀ m : SMap, (∃ x ∈ a, x.name = n ∧ findK b x.item = none) → play1 (allTurns a b) m n = none := fun m h => del_yes (fun t : TurnI => t.name) n _ m ((mem_drop ha).2 h)
  have h1s : ∀ m : SMap, ¬ (∃ x ∈ a, x.name = n ∧ findK b x.item = none) → play1 (allTurns a b) m n = m n := fun m h => del_no (fun t : TurnI => t.name) n _ m fun t ht e => h ((mem_drop ha).1 ⟨t, ht, e⟩)
  have h2n : ∀ m : SMap, (∃ x ∈ a, ∃ y ∈ b, x.item = y.item ∧ x.name ≠ y.name ∧ x.name = n) → play2 (allTurns a b) m n = none := fun m ⟨x, hx, y, hy, hi, hne, e⟩ => del_yes (fun t : TurnI => t.from_) n _ m ⟨_, (mem_move ha hb).2 ⟨x, hx, y, hy, hi, hne, rfl⟩, e⟩
  have h2s : ∀ m : SMap, ¬ (∃ x ∈ a, ∃ y ∈ b, x.item = y.item ∧ x.name ≠ y.name ∧ x.name = n) → play2 (allTurns a b) m n = m n := fun m h => del_no (fun t : TurnI => t.from_) n _ m fun t ht e => by
    obtain ⟨x, hx, y, hy, hi, hne, rfl⟩ := (mem_move ha hb).1 ht
    exact h ⟨x, hx, y, hy, hi, hne, e⟩
  have h3n : ∀ m : SMap, ¬ (∃ x ∈ a, ∃ y ∈ b, x.item = y.item ∧ x.name ≠ y.name ∧ y.name = n) → play3 (wasM a) (allTurns a b) m n = m n := fun m h => put_no (fun t : TurnI => t.name) (fun t => getM (wasM a) t.from_) n _ m fun t ht e => by
    obtain ⟨x, hx, y, hy, hi, hne, rfl⟩ := (mem_move ha hb).1 ht
    exact h ⟨x, hx, y, hy, hi, hne, e⟩
  have h3s : ∀ (m : SMap) (x y : LeafI), x ∈ a → y ∈ b → x.item = y.item → x.name ≠ y.name → y.name = n → play3 (wasM a) (allTurns a b) m n = some x.d := fun m x y hx hy hi hne e =>
    put_yes (fun t : TurnI => t.name) (fun t => getM (wasM a) t.from_) n x.d _ m (fun t ht e' => by
      obtain ⟨x', hx', y', hy', hi', hne', rfl⟩ := (mem_move ha hb).1 ht
      have ey : y' = y := rising_uniq rb hy' hy (e'.trans e.symm)
      subst ey
      have h1 := findK_mem ha hx
      have h2 := findK_mem ha hx'
      rw [hi] at h1
      rw [hi', h1] at h2
      injection h2 with h2
      subst h2
      simp only [getM, was_some ra hx, Option.getD_some]) ⟨_, (mem_move ha hb).2 ⟨x, hx, y, hy, hi, hne, rfl⟩, e⟩
  have h4n : ∀ m : SMap, ¬ (∃ y ∈ b, y.name = n ∧ (findK a y.item = none ∨ ∃ x ∈ a, x.item = y.item ∧ x.d ≠ y.d)) → play4 (allTurns a b) m n = m n := fun m h => put_no (fun t : TurnI => t.name) (fun t => t.d) n _ m fun t ht e => by
    obtain ⟨y, hy, e1, _, (⟨hn, _⟩ | ⟨x, hx, hi, hne, _⟩)⟩ := (mem_data ha hb).1 ht
    · exact h ⟨y, hy, e1.symm.trans e, .inl hn⟩
    · exact h ⟨y, hy, e1.symm.trans e, .inr ⟨x, hx, hi, hne⟩⟩
  have h4s : ∀ (m : SMap) (y : LeafI), y ∈ b → y.name = n → (findK a y.item = none ∨ ∃ x ∈ a, x.item = y.item ∧ x.d ≠ y.d) → play4 (allTurns a b) m n = some y.d := fun m y hy e hc =>
    put_yes (fun t : TurnI => t.name) (fun t => t.d) n y.d _ m (fun t ht e' => by
      obtain ⟨y', hy', e1, e2, _⟩ := (mem_data ha hb).1 ht
      have ey : y' = y := rising_uniq rb hy' hy (e1.symm.trans (e'.trans e.symm))
      subst ey
      exact e2) (by
      rcases hc with hc | ⟨x, hx, hi, hne⟩
      · exact ⟨⟨1, y.name, ⟨#[]⟩, y.d⟩, (mem_data ha hb).2 ⟨y, hy, rfl, rfl, .inl ⟨hc, rfl⟩⟩, e⟩
      · exact ⟨⟨3, y.name, ⟨#[]⟩, y.d⟩, (mem_data ha hb).2 ⟨y, hy, rfl, rfl, .inr ⟨x, hx, hi, hne, rfl⟩⟩, e⟩)
  unfold playM
  by_cases hn : ∃ y ∈ b, y.name = n
  · obtain ⟨y, hy, rfl⟩ := hn
    rw [was_some rb hy]
    by_cases hc : findK a y.item = none ∨ ∃ x ∈ a, x.item = y.item ∧ x.d ≠ y.d
    · exact h4s _ y hy rfl hc
    · rw [h4n _ (by
        rintro ⟨y', hy', e, hc'⟩
        have ey : y' = y := rising_uniq rb hy' hy e
        subst ey
        exact hc hc')]
      cases hx : findK a y.item with
      | none => exact absurd (.inl hx) hc
      | some x =>
        obtain ⟨hxa, hxi⟩ := findK_some hx
        have hd : x.d = y.d := Classical.not_not.1 fun h => hc (.inr ⟨x, hxa, hxi, h⟩)
        by_cases hne : x.name = y.name
        · rw [h3n _ (by
            rintro ⟨x', hx', y', hy', hi', hne', e⟩
            have ey : y' = y := rising_uniq rb hy' hy e
            subst ey
            have := findK_mem ha hx'
            rw [hi', hx] at this
            injection this with this
            subst this
            exact hne' hne)]
          rw [h2s _ (by
            rintro ⟨x', hx', y', hy', hi', hne', e⟩
            have ex : x' = x := rising_uniq ra hx' hxa (e.trans hne.symm)
            subst ex
            have := findK_mem hb hy'
            rw [← hi', hxi, findK_mem hb hy] at this
            injection this with this
            subst this
            exact hne' hne)]
          rw [h1s _ (by
            rintro ⟨x', hx', e, hn'⟩
            have ex : x' = x := rising_uniq ra hx' hxa (e.trans hne.symm)
            subst ex
            rw [hxi, findK_mem hb hy] at hn'
            cases hn')]
          rw [← hne, was_some ra hxa, hd]
        · rw [h3s _ x y hxa hy hxi hne rfl, hd]
  · have hno : ∀ y ∈ b, y.name ≠ n := fun y hy e => hn ⟨y, hy, e⟩
    rw [was_none hno, h4n _ (fun ⟨y, hy, e, _⟩ => hno y hy e), h3n _ (fun ⟨_, _, y, hy, _, _, e⟩ => hno y hy e)]
    by_cases hm : ∃ x ∈ a, ∃ y ∈ b, x.item = y.item ∧ x.name ≠ y.name ∧ x.name = n
    · exact h2n _ hm
    · rw [h2s _ hm]
      by_cases hd : ∃ x ∈ a, x.name = n ∧ findK b x.item = none
      · exact h1n _ hd
      · rw [h1s _ hd]
        refine was_none fun x hx e => ?_
        cases hy : findK b x.item with
        | none => exact hd ⟨x, hx, e, hy⟩
        | some y =>
          obtain ⟨hyb, hyi⟩ := findK_some hy
          by_cases hxy : x.name = y.name
          · exact hno y hyb (hxy.symm.trans e)
          · exact hm ⟨x, hx, y, hyb, hyi.symm, hxy, e⟩
/-- With no turns. -/
theorem play_nil (a : List LeafI) : playM a [] = wasM a := rfl
theorem was_iff {b : List LeafI} (rb : Rising b) (n : ByteArray) : (wasM b n).isSome = true ↔ ∃ y ∈ b, y.name = n := by
  constructor
  · intro h
    apply Classical.byContradiction
    intro hn
    rw [was_none fun y hy e => hn ⟨y, hy, e⟩] at h
    cases h
  · rintro ⟨y, hy, rfl⟩
    rw [was_some rb hy]; rfl
end Go.Proofs.Ytgkdiknmjgpgmaa
