/-
  In whatever order names are put: plain facts.
-/
import Derived.Test.YtfoafookodldfaaIdxE
namespace Go.Proofs.Ytfoafookodldfaa
set_option linter.unusedSimpArgs false
set_option linter.unusedVariables false
open Go.RowKit

theorem mem_putK (s : ByteArray) (k : Int) {l : List PairI} (hs : Srt l) (t : ByteArray) : t ∈ (putK s k l).map (·.name) ↔ t = s ∨ t ∈ l.map (·.name) := by
  unfold putK
  cases hn : hasK s l with
  | true =>
    obtain ⟨hr, hname⟩ := hasK_true hn
    rw [if_pos rfl, set_names hr hname]
    constructor
    · exact .inr
    · rintro (rfl | h)
      · exact List.mem_map.2 ⟨_, List.getElem_mem hr, hname⟩
      · exact h
  | false =>
    rw [if_neg (by simp), List.map_append, List.map_cons, List.mem_append, List.mem_cons]
    have e : l.map (·.name) = (l.take (rk s l)).map (·.name) ++ (l.drop (rk s l)).map (·.name) := by rw [← List.map_append, List.take_append_drop]
    rw [e, List.mem_append]
    constructor
    · rintro (h | h | h)
      · exact .inr (.inl h)
      · exact .inl h
      · exact .inr (.inr h)
    · rintro (h | h | h)
      · exact .inr (.inl h)
      · exact .inl h
      · exact .inr (.inr h)
def Ones (l : List PairI) : Prop := ∀ p ∈ l, p.n = 1
theorem putK_ones (s : ByteArray) {l : List PairI} (h : Ones l) : Ones (putK s 1 l) := by
  unfold putK
  split
  · intro p hp
    rcases List.mem_or_eq_of_mem_set hp with hp | rfl
    · exact h p hp
    · rfl
  · intro p hp
    rcases List.mem_append.1 hp with hp | hp
    · exact h p (List.mem_of_mem_take hp)
    · rcases List.mem_cons.1 hp with rfl | hp
      · rfl
      · exact h p (List.mem_of_mem_drop hp)
theorem srt_eq : ∀ {l m : List PairI}, Srt l → Srt m → Ones l → Ones m → (∀ t, t ∈ l.map (·.name) ↔ t ∈ m.map (·.name)) → l = m
  | [], [], _, _, _, _, _ => rfl
  | [], y :: m, _, _, _, _, h => absurd ((h y.name).2 (by simp)) (by simp)
  | x :: l, [], _, _, _, _, h => absurd ((h x.name).1 (by simp)) (by simp)
  | x :: l, y :: m, hl, hm, ol, om, h => by
    have hl' := List.pairwise_cons.1 hl
    have hm' := List.pairwise_cons.1 hm
    have gl : ∀ t ∈ l.map (·.name), blt x.name t = true := fun t ht => by
      obtain ⟨p, hp, rfl⟩ := List.mem_map.1 ht
      exact hl'.1 p hp
    have gm : ∀ t ∈ m.map (·.name), blt y.name t = true := fun t ht => by
      obtain ⟨p, hp, rfl⟩ := List.mem_map.1 ht
      exact hm'.1 p hp
    have exy : x.name = y.name := by
      have h1 := (h x.name).1 (by simp)
      have h2 := (h y.name).2 (by simp)
      simp only [List.map_cons, List.mem_cons] at h1 h2
      rcases h1 with h1 | h1
      · exact h1
      · rcases h2 with h2 | h2
        · exact h2.symm
        · have := blt_asymm (gm _ h1)
          rw [gl _ h2] at this
          cases this
    have e : x = y := by
      have h1 := ol x (by simp)
      have h2 := om y (by simp)
      obtain ⟨xn, xk⟩ := x
      obtain ⟨yn, yk⟩ := y
      simp only at h1 h2 exy
      rw [h1, h2, exy]
    subst e
    have := srt_eq hl'.2 hm'.2 (fun p hp => ol p (by simp [hp])) (fun p hp => om p (by simp [hp])) (fun t => by
      constructor
      · intro ht
        have h1 := (h t).1 (by simp only [List.map_cons, List.mem_cons]; exact .inr ht)
        simp only [List.map_cons, List.mem_cons] at h1
        rcases h1 with rfl | h1
        · have := gl _ ht; rw [blt_irrefl] at this; cases this
        · exact h1
      · intro ht
        have h1 := (h t).2 (by simp only [List.map_cons, List.mem_cons]; exact .inr ht)
        simp only [List.map_cons, List.mem_cons] at h1
        rcases h1 with rfl | h1
        · have := gm _ ht; rw [blt_irrefl] at this; cases this
        · exact h1)
    rw [this]
end Go.Proofs.Ytfoafookodldfaa
