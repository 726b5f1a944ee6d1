/-
  Leaves and turns: plain words; what became of files.
-/
import Derived.Test.YtgkdiknmjgpgmaaUpA
import Derived.Test.YtgkdiknmjgpgmaaStr
namespace Go.Proofs.Ytgkdiknmjgpgmaa
set_option linter.unusedSimpArgs false
set_option linter.unusedVariables false
open Go.RowKit

structure LeafI where
  name : ByteArray
  path : ByteArray
  item : Ver
  d : ByteArray
def LeafI.cells (x : LeafI) : List Value := [.string x.name, .string x.path, .int .i64 x.item.by_, .int .i64 x.item.n, .string x.d]
def LeafI.val (x : LeafI) : Value := .agg #[.string x.name, .string x.path, .int .i64 x.item.by_, .int .i64 x.item.n, .string x.d]
theorem leaf_coded : Coded LeafI.cells 5 := ⟨fun _ => rfl, fun a u hu => by simp [LeafI.cells] at hu; rcases hu with rfl | rfl | rfl | rfl | rfl <;> rfl⟩
def leaf0 : LeafI := ⟨⟨#[]⟩, ⟨#[]⟩, ⟨0, 0⟩, ⟨#[]⟩⟩
instance : Inhabited LeafI := ⟨leaf0⟩
theorem leaf_ext {a b : LeafI} (h1 : a.name = b.name) (h2 : a.path = b.path) (h3 : a.item = b.item) (h4 : a.d = b.d) : a = b := by cases a; cases b; simp_all
structure TurnI where
  kind : Int
  name : ByteArray
  from_ : ByteArray
  d : ByteArray
def TurnI.cells (x : TurnI) : List Value := [.int .i64 x.kind, .string x.name, .string x.from_, .string x.d]
def TurnI.val (x : TurnI) : Value := .agg #[.int .i64 x.kind, .string x.name, .string x.from_, .string x.d]
theorem turn_coded : Coded TurnI.cells 4 := ⟨fun _ => rfl, fun a u hu => by simp [TurnI.cells] at hu; rcases hu with rfl | rfl | rfl | rfl <;> rfl⟩

/-- An item's place: the first one; the length, if there is none. -/
def placeK (it : Ver) : List LeafI → Nat
  | [] => 0
  | x :: l => if x.item = it then 0 else placeK it l + 1
theorem placeK_le (it : Ver) : ∀ l : List LeafI, placeK it l ≤ l.length
  | [] => Nat.le_refl _
  | x :: l => by
    unfold placeK
    split
    · simp
    · have := placeK_le it l; simp; omega
theorem placeK_ne (it : Ver) : ∀ (l : List LeafI) (k : Nat) (h : k < l.length), k < placeK it l → ¬ l[k].item = it
  | x :: l, k, h, hk => by
    unfold placeK at hk
    split at hk
    · omega
    · rename_i hx
      cases k with
      | zero => exact hx
      | succ k => exact placeK_ne it l k (by simpa using h) (by omega)
theorem placeK_at (it : Ver) : ∀ (l : List LeafI) (h : placeK it l < l.length), l[placeK it l].item = it
  | x :: l, h => by
    by_cases hx : x.item = it
    · have e : placeK it (x :: l) = 0 := by simp [placeK, hx]
      simp only [e, List.getElem_cons_zero]
      exact hx
    · have e : placeK it (x :: l) = placeK it l + 1 := by simp [placeK, hx]
      have h' : placeK it l < l.length := by rw [e] at h; simpa using h
      simp only [e, List.getElem_cons_succ]
      exact placeK_at it l h'
theorem placeK_lt {it : Ver} {l : List LeafI} : placeK it l < l.length ↔ ∃ x ∈ l, x.item = it := by
  constructor
  · intro h
    exact ⟨_, List.getElem_mem h, placeK_at it l h⟩
  · rintro ⟨x, hx, e⟩
    obtain ⟨k, hk, rfl⟩ := List.getElem_of_mem hx
    rcases Nat.lt_or_ge k (placeK it l) with h | h
    · exact absurd e (placeK_ne it l k hk h)
    · omega
theorem placeK_uniq {it : Ver} {l : List LeafI} {k : Nat} (h : k < l.length) (hk : l[k].item = it) (hb : ∀ j (hj : j < l.length), j < k → ¬ l[j].item = it) : placeK it l = k := by
  rcases Nat.lt_trichotomy (placeK it l) k with h1 | h1 | h1
  · exact absurd (placeK_at it l (by omega)) (hb _ (by omega) h1)
  · exact h1
  · exact absurd hk (placeK_ne it l k h h1)
/-- The leaf of an item; none, if it isn't there. -/
def findK (l : List LeafI) (it : Ver) : Option LeafI := l[placeK it l]?
/-- What became of an item. -/
def turnsK (x y : Option LeafI) : List TurnI :=
  match x, y with
  | some x, none => [⟨2, x.name, ⟨#[]⟩, ⟨#[]⟩⟩]
  | none, none => [⟨2, ⟨#[]⟩, ⟨#[]⟩, ⟨#[]⟩⟩]
  | none, some y => [⟨1, y.name, ⟨#[]⟩, y.d⟩]
  | some x, some y => (if x.name = y.name then [] else [⟨4, y.name, x.name, ⟨#[]⟩⟩]) ++ (if x.d = y.d then [] else [⟨3, y.name, ⟨#[]⟩, y.d⟩])
def itemsL (a : List LeafI) : List Ver := setL Ver.lt (a.map (·.item))
theorem mem_itemsL (l : List LeafI) (it : Ver) : it ∈ itemsL l ↔ ∃ x ∈ l, x.item = it := by
  unfold itemsL
  rw [mem_setL Ver.strict, List.mem_map]
theorem itemsL_len (l : List LeafI) : (itemsL l).length ≤ l.length := by
  have := setL_length Ver.strict (l.map (·.item))
  unfold itemsL
  rwa [List.length_map] at this
def allTurns (a b : List LeafI) : List TurnI := (itemsL (a ++ b)).flatMap fun it => turnsK (findK a it) (findK b it)
theorem turnsK_len (x y : Option LeafI) : (turnsK x y).length ≤ 2 := by
  unfold turnsK
  split
  · simp
  · simp
  · simp
  · split <;> split <;> simp
theorem turnsK_same (x : LeafI) : turnsK (some x) (some x) = [] := by simp [turnsK]
def sumT (a b : List LeafI) (its : List Ver) : List TurnI := its.flatMap fun it => turnsK (findK a it) (findK b it)
theorem sumT_take (a b : List LeafI) (its : List Ver) (k : Nat) (h : k < its.length) : sumT a b (its.take (k + 1)) = sumT a b (its.take k) ++ turnsK (findK a its[k]) (findK b its[k]) := by
  unfold sumT
  rw [List.take_succ_eq_append_getElem h, List.flatMap_append]
  simp
theorem sumT_len (a b : List LeafI) : ∀ its : List Ver, (sumT a b its).length ≤ 2 * its.length
  | [] => by simp [sumT]
  | it :: its => by
    have := sumT_len a b its
    have h2 := turnsK_len (findK a it) (findK b it)
    unfold sumT at *
    rw [List.flatMap_cons, List.length_append, List.length_cons]
    omega
theorem findK_self {l : List LeafI} {it : Ver} (h : it ∈ itemsL (l ++ l)) : ∃ x, findK l it = some x := by
  obtain ⟨x, hx, e⟩ := (mem_itemsL _ _).1 h
  have hm : x ∈ l := by rcases List.mem_append.1 hx with h | h <;> exact h
  have := placeK_lt.2 ⟨x, hm, e⟩
  exact ⟨_, List.getElem?_eq_getElem this⟩
theorem turns_self (l : List LeafI) : allTurns l l = [] := by
  unfold allTurns
  rw [List.flatMap_eq_nil_iff]
  intro it hit
  obtain ⟨x, hx⟩ := findK_self hit
  rw [hx, turnsK_same]
/-- Is it a listing? -/
def Rising (l : List LeafI) : Prop := ∀ k (h : k + 1 < l.length), blt l[k].name l[k + 1].name = true
def Once (l : List LeafI) : Prop := ∀ k (h : k < l.length), placeK l[k].item l = k
theorem once_iff (l : List LeafI) : Once l ↔ (l.map (·.item)).Nodup := by
  rw [List.nodup_iff_pairwise_ne, List.pairwise_map, List.pairwise_iff_getElem]
  constructor
  · intro h i j hi hj hij e
    have h1 := h i hi
    have h2 := h j hj
    rw [e] at h1
    omega
  · intro h k hk
    refine placeK_uniq hk rfl fun j hj hjk e => h j k hj hk hjk e
theorem insL_in {g : List Ver} (hg : SrtL Ver.lt g) {x : Ver} (hx : x ∈ g) : insL Ver.lt x g = g :=
  srtL_eq Ver.strict (insL_srt Ver.strict hg x) hg fun z => by
    rw [mem_insL]
    constructor
    · rintro (h | rfl)
      · exact h
      · exact hx
    · exact .inl
theorem insL_out {g : List Ver} {x : Ver} (hx : x ∉ g) : (insL Ver.lt x g).length = g.length + 1 := by
  have hr := rankL_le (lt := Ver.lt) x g
  unfold insL
  rw [if_neg (fun h => hx (List.mem_of_getElem? h))]
  simp
  omega
theorem setL_full (l : List Ver) : (setL Ver.lt l).length = l.length ↔ l.Nodup := by
  have key : ∀ k, k ≤ l.length → ((setL Ver.lt (l.take k)).length = k ↔ (l.take k).Nodup) := by
    intro k
    induction k with
    | zero => intro _; simp [setL]
    | succ k ih =>
      intro hk
      have ih := ih (by omega)
      have hle := setL_length Ver.strict (l.take k)
      rw [List.length_take, Nat.min_eq_left (by omega)] at hle
      have hnd : (l.take (k + 1)).Nodup ↔ (l.take k).Nodup ∧ l[k] ∉ l.take k := by
        rw [List.take_succ_eq_append_getElem (by omega), List.nodup_append]
        constructor
        · rintro ⟨h1, _, h3⟩
          exact ⟨h1, fun hm => h3 _ hm _ (by simp) rfl⟩
        · rintro ⟨h1, h2⟩
          exact ⟨h1, by simp, fun a ha b hb e => by rw [List.mem_singleton.1 hb] at e; subst e; exact h2 ha⟩
      rw [hnd, setL_take l k (by omega)]
      by_cases hm : l[k] ∈ l.take k
      · rw [insL_in (setL_srt Ver.strict _) ((mem_setL Ver.strict _ _).2 hm)]
        constructor
        · intro h; omega
        · rintro ⟨_, h⟩; exact absurd hm h
      · rw [insL_out (fun h => hm ((mem_setL Ver.strict _ _).1 h))]
        constructor
        · intro h; exact ⟨ih.1 (by omega), hm⟩
        · rintro ⟨h, _⟩; have := ih.2 h; omega
  have := key l.length (Nat.le_refl _)
  rwa [List.take_length] at this
theorem full_once (l : List LeafI) : (itemsL l).length = l.length ↔ Once l := by
  rw [once_iff, ← setL_full]
  unfold itemsL
  rw [List.length_map]
end Go.Proofs.Ytgkdiknmjgpgmaa
