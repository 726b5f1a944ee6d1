/-
  Turns: how many add, how many drop. Plain facts.
-/
import Derived.Test.YtgkdiknmjgpgmaaDfA
namespace Go.Proofs.Ytgkdiknmjgpgmaa
set_option linter.unusedSimpArgs false
set_option linter.unusedVariables false

def addsK (t : List TurnI) : Int := (t.countP fun x => decide (x.kind = 1) : Nat)
def dropsK (t : List TurnI) : Int := (t.countP fun x => decide (x.kind = 2) : Nat)
theorem addsK_append (a b : List TurnI) : addsK (a ++ b) = addsK a + addsK b := by simp [addsK]
theorem dropsK_append (a b : List TurnI) : dropsK (a ++ b) = dropsK a + dropsK b := by simp [dropsK]
theorem adds_turns (x y : Option LeafI) (h : x.isSome = true ∨ y.isSome = true) : addsK (turnsK x y) - dropsK (turnsK x y) = (if y.isSome then 1 else 0) - (if x.isSome then 1 else 0) := by
  cases x with
  | none =>
    cases y with
    | none => simp at h
    | some y => simp [turnsK, addsK, dropsK]
  | some x =>
    cases y with
    | none => simp [turnsK, addsK, dropsK]
    | some y =>
      unfold turnsK
      simp only [Option.isSome_some, if_true]
      split <;> split <;> simp [addsK, dropsK]
def hasIt (l : List LeafI) (it : Ver) : Bool := (findK l it).isSome
theorem hasIt_iff (l : List LeafI) (it : Ver) : hasIt l it = true ↔ ∃ x ∈ l, x.item = it := by
  unfold hasIt findK
  rw [← placeK_lt, Option.isSome_iff_exists]
  constructor
  · rintro ⟨x, hx⟩
    exact (List.getElem?_eq_some_iff.1 hx).1
  · intro h
    exact ⟨_, List.getElem?_eq_getElem h⟩
theorem net_sum (a b : List LeafI) : ∀ its : List Ver, (∀ it ∈ its, hasIt a it = true ∨ hasIt b it = true) → addsK (sumT a b its) - dropsK (sumT a b its) = ((its.filter (hasIt b)).length : Int) - ((its.filter (hasIt a)).length : Int)
  | [], _ => by simp [sumT, addsK, dropsK]
  | it :: its, h => by
    have ih := net_sum a b its fun z hz => h z (by simp [hz])
    have h1 := adds_turns (findK a it) (findK b it) (h it (by simp))
    have e : sumT a b (it :: its) = turnsK (findK a it) (findK b it) ++ sumT a b its := by simp [sumT]
    rw [e, addsK_append, dropsK_append, List.filter_cons, List.filter_cons]
    unfold hasIt at ih ⊢
    by_cases ha : (findK a it).isSome = true <;> by_cases hb : (findK b it).isSome = true <;> simp only [ha, hb, if_true, if_false, List.length_cons, Bool.false_eq_true] at h1 ⊢ <;> push_cast <;> omega
theorem filter_items {a b c : List LeafI} (hs : ∀ x ∈ c, x ∈ a ++ b) (hc : Once c) : ((itemsL (a ++ b)).filter (hasIt c)).length = c.length := by
  have e : (itemsL (a ++ b)).filter (hasIt c) = itemsL c := by
    refine srtL_eq Ver.strict ((setL_srt Ver.strict _).sublist List.filter_sublist) (setL_srt Ver.strict _) fun it => ?_
    rw [List.mem_filter, hasIt_iff]
    constructor
    · rintro ⟨_, h⟩
      exact (mem_itemsL c it).2 h
    · intro h
      have h' := (mem_itemsL c it).1 h
      obtain ⟨x, hx, hxi⟩ := h'
      exact ⟨(mem_itemsL _ it).2 ⟨x, hs x hx, hxi⟩, x, hx, hxi⟩
  rw [e]
  exact (full_once c).2 hc
theorem net_turns (a b : List LeafI) (ha : Once a) (hb : Once b) : addsK (allTurns a b) - dropsK (allTurns a b) = (b.length : Int) - a.length := by
  have h := net_sum a b (itemsL (a ++ b)) fun it hit => by
    obtain ⟨x, hx, e⟩ := (mem_itemsL _ it).1 hit
    rcases List.mem_append.1 hx with hx | hx
    · exact .inl ((hasIt_iff a it).2 ⟨x, hx, e⟩)
    · exact .inr ((hasIt_iff b it).2 ⟨x, hx, e⟩)
  rw [filter_items (fun x hx => List.mem_append_right _ hx) hb, filter_items (fun x hx => List.mem_append_left _ hx) ha] at h
  exact h
theorem turns_len (a b : List LeafI) : (allTurns a b).length ≤ 2 * (itemsL (a ++ b)).length := sumT_len a b _
theorem addsK_take (t : List TurnI) (k : Nat) (h : k < t.length) : addsK (t.take (k + 1)) = addsK (t.take k) + (if t[k].kind = 1 then 1 else 0) := by
  rw [List.take_succ_eq_append_getElem h, addsK_append]
  by_cases e : t[k].kind = 1 <;> simp [addsK, e]
theorem dropsK_take (t : List TurnI) (k : Nat) (h : k < t.length) : dropsK (t.take (k + 1)) = dropsK (t.take k) + (if t[k].kind = 2 then 1 else 0) := by
  rw [List.take_succ_eq_append_getElem h, dropsK_append]
  by_cases e : t[k].kind = 2 <;> simp [dropsK, e]
theorem addsK_bd (t : List TurnI) (k : Nat) : 0 ≤ addsK (t.take k) ∧ addsK (t.take k) ≤ k := by
  have h := List.countP_le_length (p := fun x : TurnI => decide (x.kind = 1)) (l := t.take k)
  rw [List.length_take] at h
  unfold addsK
  omega
theorem dropsK_bd (t : List TurnI) (k : Nat) : 0 ≤ dropsK (t.take k) ∧ dropsK (t.take k) ≤ k := by
  have h := List.countP_le_length (p := fun x : TurnI => decide (x.kind = 2)) (l := t.take k)
  rw [List.length_take] at h
  unfold dropsK
  omega
end Go.Proofs.Ytgkdiknmjgpgmaa
