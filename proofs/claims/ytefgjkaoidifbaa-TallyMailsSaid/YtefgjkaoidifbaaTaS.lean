/-
  The law TallyMails: plain facts about what it finds on its way; the largest of two.
-/
import Derived.Test.YtefgjkaoidifbaaTaI
import Derived.IntWalk
namespace Go.Proofs.Ytefgjkaoidifbaa
set_option linter.unusedSimpArgs false
set_option linter.unusedVariables false
open Go.RowKit

/-- What the law holds after i mails, if all strings are short. -/
def MInv (l : List MailI) (i : Nat) (best most : Int) : Prop :=
  Small l → (i = 0 ∧ best = 0 ∧ most = -1) ∨ (presT (l.take i) best ∧ most = sumTo l best ∧ ∀ t, presT (l.take i) t → sumTo l t < most ∨ sumTo l t = most ∧ best ≤ t)
theorem MInv.start (l : List MailI) : MInv l 0 0 (-1) := fun _ => .inl ⟨rfl, rfl, rfl⟩
theorem presT_take {l : List MailI} {k : Nat} (h : k < l.length) (t : Int) : presT (l.take (k + 1)) t ↔ presT (l.take k) t ∨ l[k].to_ = t := by
  rw [List.take_succ_eq_append_getElem h, presT_snoc]
theorem MInv.yes {l : List MailI} {i : Nat} {best most n : Int} (h : MInv l i best most) (hi : i < l.length) (hn : Small l → n = sumTo l l[i].to_) (hc : most < n ∨ n = most ∧ l[i].to_ < best) : MInv l (i + 1) l[i].to_ n := fun hs => by
  have e := hn hs
  have hb := sumTo_bd hs l[i].to_
  refine .inr ⟨(presT_take hi _).2 (.inr rfl), e, fun t ht => ?_⟩
  rcases (presT_take hi t).1 ht with ht | rfl
  · rcases h hs with ⟨rfl, _, _⟩ | ⟨_, _, h3⟩
    · obtain ⟨m, hm, _⟩ := ht
      rw [List.take_zero] at hm; cases hm
    · have := h3 t ht
      omega
  · exact .inr ⟨e.symm, Int.le_refl _⟩
theorem MInv.no {l : List MailI} {i : Nat} {best most n : Int} (h : MInv l i best most) (hi : i < l.length) (hn : Small l → n = sumTo l l[i].to_) (hc : ¬ (most < n ∨ n = most ∧ l[i].to_ < best)) : MInv l (i + 1) best most := fun hs => by
  have e := hn hs
  have hb := sumTo_bd hs l[i].to_
  rcases h hs with ⟨rfl, rfl, rfl⟩ | ⟨h1, h2, h3⟩
  · omega
  · refine .inr ⟨(presT_take hi _).2 (.inl h1), h2, fun t ht => ?_⟩
    rcases (presT_take hi t).1 ht with ht | rfl
    · exact h3 t ht
    · omega
theorem MInv.done {l : List MailI} {best most : Int} (h : MInv l l.length best most) (hs : Small l) : Most l (best, max most 0) := by
  rcases h hs with ⟨h1, h2, h3⟩ | ⟨h1, h2, h3⟩
  · subst h2; subst h3
    exact .inl ⟨List.eq_nil_of_length_eq_zero h1, rfl⟩
  · rw [List.take_length] at h1 h3
    have := sumTo_bd hs best
    have e : max most 0 = most := by omega
    rw [e]
    exact .inr ⟨h1, h2, h3⟩
theorem sumTo_step {l : List MailI} (k : Nat) (hk : k < l.length) (t n : Int) (hn : Small l → n = sumTo (l.take k) t) (he : l[k].to_ = t) : Small l → wrap64 (n + l[k].s.size) = sumTo (l.take (k + 1)) t := fun hs => by
  have e := hn hs
  have h1 := sumTo_bd (hs.take k) t
  have h2 := hs.2 _ (List.getElem_mem hk)
  rw [List.take_succ_eq_append_getElem hk, sumTo_snoc, if_pos he, ← e, IntWalk.wrap64_in]
  omega
theorem sumTo_skip {l : List MailI} (k : Nat) (hk : k < l.length) (t n : Int) (hn : Small l → n = sumTo (l.take k) t) (he : ¬ l[k].to_ = t) : Small l → n = sumTo (l.take (k + 1)) t := fun hs => by
  rw [List.take_succ_eq_append_getElem hk, sumTo_snoc, if_neg he]
  exact hn hs
theorem small_all {l : List MailI} (hl : l.length ≤ 100) (h : ∀ m ∈ l.take l.length, m.s.size ≤ 1000) : Small l := ⟨hl, by rwa [List.take_length] at h⟩
theorem sumAll_take {l : List MailI} (k : Nat) (hk : l.length ≤ 100) (h : ∀ m ∈ l.take k, m.s.size ≤ 1000) : 0 ≤ sumAll (l.take k) ∧ sumAll (l.take k) ≤ 100000 := sumAll_bd ⟨by rw [List.length_take]; omega, h⟩
end Go.Proofs.Ytefgjkaoidifbaa
