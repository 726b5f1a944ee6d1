/-
  Two indexes side by side.
-/
import Derived.Test.YtfoafookodldfaaIdxI
import Derived.Test.YtfoafookodldfaaIdxQ
namespace Go.Proofs.Ytfoafookodldfaa
set_option linter.unusedSimpArgs false
set_option linter.unusedVariables false
open Go.RowKit

theorem IdxAt.lt {w : World} {g : Nat} {R : Option Nat} {l : List PairI} (h : IdxAt w g R l) : g < w.heap.size ∧ ∀ b, R = some b → b < w.heap.size := by
  obtain ⟨c, h1, _, _, _, h5⟩ := h.ex
  exact ⟨h1.lt, fun b hb => by obtain ⟨_, cs, h6, _⟩ := h5 b hb; exact h6.lt⟩
theorem IdxAt.keep {w w' : World} {g : Nat} {R : Option Nat} {l : List PairI} {S : Nat → Prop} (h : IdxAt w g R l) (hk : Keep S w w') (hg : ¬ S g) (hR : ∀ b, R = some b → ¬ S b) : IdxAt w' g R l := by
  obtain ⟨c, h1, h2, h3, h4, h5⟩ := h.ex
  exact ⟨c, h1.keep hk hg, h2, h3, h4, fun b hb => by obtain ⟨hn, cs, h6, h7, h8⟩ := h5 b hb; exact ⟨hn, cs, h6.keep hk (hR b hb), h7, h8⟩⟩

/-- An index, all of whose memory the law has made. -/
structure Mine (B : Nat) (w : World) (g : Nat) (R : Option Nat) (l : List PairI) : Prop where
  at_ : IdxAt w g R l
  srt : Srt l
  low : B ≤ g ∧ ∀ b, R = some b → B ≤ b
/-- Nothing of the one is of the other one. -/
def Apart (g1 : Nat) (R1 : Option Nat) (g2 : Nat) (R2 : Option Nat) : Prop := g1 ≠ g2 ∧ R1 ≠ some g2 ∧ R2 ≠ some g1 ∧ ∀ x, R1 = some x → R2 ≠ some x
theorem Apart.symm {g1 : Nat} {R1 : Option Nat} {g2 : Nat} {R2 : Option Nat} (h : Apart g1 R1 g2 R2) : Apart g2 R2 g1 R1 := ⟨Ne.symm h.1, h.2.2.1, h.2.1, fun x hx e => h.2.2.2 x e hx⟩

def Two (w0 w : World) (g1 g2 : Nat) (l1 l2 : List PairI) : Prop := ∃ R1 R2, Mine w0.heap.size w g1 R1 l1 ∧ Mine w0.heap.size w g2 R2 l2 ∧ Apart g1 R1 g2 R2 ∧ Ext w0 w
theorem Two.symm {w0 w : World} {g1 g2 : Nat} {l1 l2 : List PairI} (h : Two w0 w g1 g2 l1 l2) : Two w0 w g2 g1 l2 l1 := by
  obtain ⟨R1, R2, h1, h2, h3, h4⟩ := h
  exact ⟨R2, R1, h2, h1, h3.symm, h4⟩
theorem Two.ext {w0 w w' : World} {g1 g2 : Nat} {l1 l2 : List PairI} (h : Two w0 w g1 g2 l1 l2) (he : Ext w w') : Two w0 w' g1 g2 l1 l2 := by
  obtain ⟨R1, R2, h1, h2, h3, h4⟩ := h
  exact ⟨R1, R2, ⟨h1.at_.ext he, h1.srt, h1.low⟩, ⟨h2.at_.ext he, h2.srt, h2.low⟩, h3, h4.trans he⟩
theorem Two.later {w0 w : World} {g1 g2 : Nat} {l1 l2 : List PairI} (h : Two w0 w g1 g2 l1 l2) : Ext w0 w := h.choose_spec.choose_spec.2.2.2

theorem Two.put {w0 w : World} {g1 g2 : Nat} {l1 l2 : List PairI} (h : Two w0 w g1 g2 l1 l2) (hl : l1.length < 1000000) (s : ByteArray) (k : Int) :
    Calls Try.prog 13 #[.pointer (some ⟨g1, 0, none⟩), .string s, .int .i64 k] w (fun e w' => e = .returned (.bool !hasK s l1) ∧ Two w0 w' g1 g2 (putK s k l1) l2) := by
  obtain ⟨R1, R2, h1, h2, ⟨a1, a2, a3, a4⟩, h4⟩ := h
  refine (put_c w g1 R1 l1 s k h1.at_ hl h1.srt).mono ?_
  rintro e w' ⟨he, R', hI, hR, hK⟩
  obtain ⟨lt2, ltR2⟩ := h2.at_.lt
  have h2' : IdxAt w' g2 R2 l2 := h2.at_.keep hK (by rintro (rfl | h); exact a1 rfl; exact a2 h) (fun b hb => by rintro (rfl | h); exact a3 hb; exact a4 b h hb)
  have hB : Below w0.heap.size w w' := hK.below h4.size fun q hq => by
    rcases hq with rfl | hq
    · exact h1.low.1
    · exact h1.low.2 q hq
  refine ⟨he, R', R2, ⟨hI, putK_srt s k h1.srt, h1.low.1, fun b hb => ?_⟩, ⟨h2', h2.srt, h2.low⟩, ⟨a1, ?_, a3, fun x hx e => ?_⟩, Below.trans h4 hB⟩
  · rcases hR with rfl | ⟨b2, rfl, h⟩
    · exact h1.low.2 b hb
    · injection hb with hb; subst hb; exact Nat.le_trans h4.size h
  · rcases hR with rfl | ⟨b2, rfl, h⟩
    · exact a2
    · intro e; injection e with e; omega
  · rcases hR with rfl | ⟨b2, rfl, h⟩
    · exact a4 x hx e
    · injection hx with hx; subst hx; have := ltR2 _ e; omega
theorem Two.len {w0 w : World} {g1 g2 : Nat} {l1 l2 : List PairI} (h : Two w0 w g1 g2 l1 l2) : Calls Try.prog 14 #[.pointer (some ⟨g1, 0, none⟩)] w (fun e w' => e = .returned (.int .i64 l1.length) ∧ w = w') := by
  obtain ⟨R1, R2, h1, h2, h3, h4⟩ := h
  obtain ⟨A, c, hg, _⟩ := h1.at_.open_
  exact len_s w g1 _ _ _ hg
theorem Two.at_ {w0 w : World} {g1 g2 : Nat} {l1 l2 : List PairI} (h : Two w0 w g1 g2 l1 l2) (k : Nat) (hk : k < l1.length) : Calls Try.prog 15 #[.pointer (some ⟨g1, 0, none⟩), .int .i64 k] w (Ret (.tuple #[.string l1[k].name, .int .i64 l1[k].n, .bool true]) w) := by
  obtain ⟨R1, R2, h1, h2, h3, h4⟩ := h
  have := at_c w g1 R1 l1 k h1.at_
  unfold atK at this
  rw [if_pos (by omega), Int.toNat_natCast, List.getElem?_eq_getElem hk] at this
  exact this

/-- names put one behind the other -/
def putAll (l : List PairI) (xs : List ByteArray) : List PairI := xs.foldl (fun l s => putK s 1 l) l
theorem putAll_take (l : List PairI) (xs : List ByteArray) (k : Nat) (h : k < xs.length) : putAll l (xs.take (k + 1)) = putK xs[k] 1 (putAll l (xs.take k)) := by
  unfold putAll
  rw [List.take_succ_eq_append_getElem h, List.foldl_append]
  rfl
theorem putAll_facts (l : List PairI) : ∀ (xs : List ByteArray), Srt l → Ones l → Srt (putAll l xs) ∧ Ones (putAll l xs) ∧ (putAll l xs).length ≤ l.length + xs.length ∧ ∀ t, t ∈ (putAll l xs).map (·.name) ↔ t ∈ xs ∨ t ∈ l.map (·.name) := by
  intro xs
  induction xs generalizing l with
  | nil => intro h1 h2; exact ⟨h1, h2, by simp [putAll], fun t => by simp [putAll]⟩
  | cons x xs ih =>
    intro h1 h2
    obtain ⟨i1, i2, i3, i4⟩ := ih (putK x 1 l) (putK_srt x 1 h1) (putK_ones x h2)
    refine ⟨i1, i2, ?_, fun t => ?_⟩
    · have := putK_length x 1 l
      have e : (putAll l (x :: xs)).length = (putAll (putK x 1 l) xs).length := rfl
      rw [e, List.length_cons]; omega
    · have e : putAll l (x :: xs) = putAll (putK x 1 l) xs := rfl
      rw [e, i4, mem_putK x 1 h1, List.mem_cons]
      constructor
      · rintro (h | h | h)
        · exact .inl (.inr h)
        · exact .inl (.inl h)
        · exact .inr h
      · rintro ((h | h) | h)
        · exact .inr (.inl h)
        · exact .inl h
        · exact .inr (.inr h)
end Go.Proofs.Ytfoafookodldfaa
