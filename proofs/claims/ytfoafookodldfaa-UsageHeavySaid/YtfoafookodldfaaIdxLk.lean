/-
  IndexLooks: plain facts, and two rows that grow side by side.
-/
import Derived.Test.YtfoafookodldfaaIdxV
import Derived.Test.YtfoafookodldfaaIdxQ
namespace Go.Proofs.Ytfoafookodldfaa
set_option linter.unusedSimpArgs false
set_option linter.unusedVariables false
open Go.RowKit

def lessK (s : ByteArray) (l : List PairI) : Nat := (l.filter fun p => blt p.name s).length
def foundK (s : ByteArray) (l : List PairI) : Bool := l.any fun p => blt s p.name
def nextK (s : ByteArray) (l : List PairI) : ByteArray := match l.find? (fun p => blt s p.name) with | some p => p.name | none => ⟨#[]⟩
def coverK (s : ByteArray) (l : List PairI) : List ByteArray := (l.filter fun p => cov s p.name).map (·.name)
def beginK (s : ByteArray) (l : List PairI) : List ByteArray := (l.filter fun p => hpre p.name s).map (·.name)
section
variable (s : ByteArray) (l : List PairI) (k : Nat) (h : k < l.length)
include h
theorem lessK_yes (hb : blt l[k].name s = true) : lessK s (l.take (k + 1)) = lessK s (l.take k) + 1 := by
  unfold lessK; rw [List.take_succ_eq_append_getElem h, List.filter_append, List.filter_cons_of_pos (by simpa using hb)]; simp
theorem lessK_no (hb : blt l[k].name s = false) : lessK s (l.take (k + 1)) = lessK s (l.take k) := by
  unfold lessK; rw [List.take_succ_eq_append_getElem h, List.filter_append, List.filter_cons_of_neg (by simp [hb])]; simp
theorem foundK_succ : foundK s (l.take (k + 1)) = (foundK s (l.take k) || blt s l[k].name) := by
  unfold foundK; rw [List.take_succ_eq_append_getElem h, List.any_append]; simp
theorem nextK_found (hf : foundK s (l.take k) = true) : nextK s (l.take (k + 1)) = nextK s (l.take k) := by
  unfold nextK foundK at *
  rw [List.take_succ_eq_append_getElem h, List.find?_append]
  cases hq : (l.take k).find? (fun p => blt s p.name) with
  | some p => rfl
  | none =>
    rw [List.find?_eq_none] at hq
    obtain ⟨p, hp, hb⟩ := List.any_eq_true.1 hf
    exact absurd hb (hq p hp)
theorem nextK_yes (hf : foundK s (l.take k) = false) (hb : blt s l[k].name = true) : nextK s (l.take (k + 1)) = l[k].name := by
  unfold nextK foundK at *
  rw [List.take_succ_eq_append_getElem h, List.find?_append]
  have hq : (l.take k).find? (fun p => blt s p.name) = none := by
    rw [List.find?_eq_none]
    intro p hp hb'
    rw [List.any_eq_false] at hf
    exact hf p hp hb'
  rw [hq]
  simp [hb]
theorem nextK_no (hf : foundK s (l.take k) = false) (hb : blt s l[k].name = false) : nextK s (l.take (k + 1)) = nextK s (l.take k) := by
  unfold nextK foundK at *
  rw [List.take_succ_eq_append_getElem h, List.find?_append]
  have hq : (l.take k).find? (fun p => blt s p.name) = none := by
    rw [List.find?_eq_none]
    intro p hp hb'
    rw [List.any_eq_false] at hf
    exact hf p hp hb'
  rw [hq]
  simp [hb]
theorem coverK_yes (hb : cov s l[k].name = true) : coverK s (l.take (k + 1)) = coverK s (l.take k) ++ [l[k].name] := by
  unfold coverK; rw [List.take_succ_eq_append_getElem h, List.filter_append, List.filter_cons_of_pos (by simpa using hb)]; simp
theorem coverK_no (hb : cov s l[k].name = false) : coverK s (l.take (k + 1)) = coverK s (l.take k) := by
  unfold coverK; rw [List.take_succ_eq_append_getElem h, List.filter_append, List.filter_cons_of_neg (by simp [hb])]; simp
theorem beginK_yes (hb : hpre l[k].name s = true) : beginK s (l.take (k + 1)) = beginK s (l.take k) ++ [l[k].name] := by
  unfold beginK; rw [List.take_succ_eq_append_getElem h, List.filter_append, List.filter_cons_of_pos (by simpa using hb)]; simp
theorem beginK_no (hb : hpre l[k].name s = false) : beginK s (l.take (k + 1)) = beginK s (l.take k) := by
  unfold beginK; rw [List.take_succ_eq_append_getElem h, List.filter_append, List.filter_cons_of_neg (by simp [hb])]; simp
end
theorem coverK_le (s : ByteArray) (l : List PairI) : (coverK s l).length ≤ l.length := by unfold coverK; rw [List.length_map]; exact List.length_filter_le _ _
theorem beginK_le (s : ByteArray) (l : List PairI) : (beginK s l).length ≤ l.length := by unfold beginK; rw [List.length_map]; exact List.length_filter_le _ _
theorem lessK_le (s : ByteArray) (l : List PairI) : lessK s l ≤ l.length := List.length_filter_le _ _
theorem lessK_rk {s : ByteArray} {l : List PairI} (hs : Srt l) : lessK s l = rk s l := by
  obtain ⟨a1, a2, a3⟩ := rk_split hs s
  unfold lessK
  conv => lhs; rw [← List.take_append_drop (rk s l) l]
  rw [List.filter_append, List.filter_eq_self.2 fun p hp => ?_, List.filter_eq_nil_iff.2 fun p hp => ?_, List.append_nil, List.length_take]
  · omega
  · obtain ⟨k, hk, rfl⟩ := List.getElem_of_mem hp
    rw [List.length_drop] at hk
    rw [List.getElem_drop, a3 _ (by omega) (by omega)]
    simp
  · obtain ⟨k, hk, rfl⟩ := List.getElem_of_mem hp
    rw [List.length_take] at hk
    rw [List.getElem_take]
    exact a2 k (by omega) (by omega)
theorem find_takeWhile {α : Type} (p : α → Bool) : ∀ l : List α, l[(l.takeWhile fun x => !p x).length]? = l.find? p
  | [] => rfl
  | x :: l => by
    cases hp : p x with
    | true => simp [hp]
    | false =>
      have := find_takeWhile p l
      rw [List.takeWhile_cons, if_pos (by simp [hp]), List.find?_cons_of_neg (by simp [hp]), List.length_cons, List.getElem?_cons_succ]
      exact this
theorem nextPK_eq (s : ByteArray) (l : List PairI) : nextPK s l = .tuple #[.string (nextK s l), .bool (foundK s l)] := by
  unfold nextPK nextK foundK rkn
  rw [find_takeWhile (fun p : PairI => blt s p.name) l]
  cases hq : l.find? (fun p => blt s p.name) with
  | some p =>
    have h1 := List.find?_some hq
    have h2 := List.mem_of_find?_eq_some hq
    rw [show (l.any fun p => blt s p.name) = true from List.any_eq_true.2 ⟨p, h2, h1⟩]
  | none =>
    rw [List.find?_eq_none] at hq
    rw [show (l.any fun p => blt s p.name) = false from List.any_eq_false.2 fun p hp => hq p hp]
theorem mem_newUpTo (names : List ByteArray) : ∀ k, k ≤ names.length → ∀ p ∈ newUpTo names k, p.name ∈ names
  | 0, _, p, hp => by cases hp
  | k + 1, hk, p, hp => by
    have : p.name ∈ (newUpTo names (k + 1)).map (·.name) := List.mem_map.2 ⟨p, hp, rfl⟩
    rw [show newUpTo names (k + 1) = putK (names.getD k ⟨#[]⟩) k (newUpTo names k) from rfl, mem_putK _ _ (newUpTo_srt names k)] at this
    rcases this with h | h
    · rw [h, List.getD_eq_getElem?_getD, List.getElem?_eq_getElem (by omega)]
      exact List.getElem_mem _
    · obtain ⟨p', hp', he⟩ := List.mem_map.1 h
      rw [← he]
      exact mem_newUpTo names k (by omega) p' hp'

/-- Two rows of texts that grow side by side. -/
structure Rows2 (W w : World) (e : TypeId) (v1 v2 : Value) (l1 l2 : List ByteArray) : Prop where
  later : Ext W w
  fst : w.ownsRow W.heap.size e 1 v1 l1.length (l1.map .string)
  snd : w.ownsRow W.heap.size e 1 v2 l2.length (l2.map .string)
  apart : ∀ a, v1.ownBlock = some a → v2.ownBlock ≠ some a
theorem Rows2.symm {W w : World} {e : TypeId} {v1 v2 : Value} {l1 l2 : List ByteArray} (h : Rows2 W w e v1 v2 l1 l2) : Rows2 W w e v2 v1 l2 l1 := ⟨h.later, h.snd, h.fst, fun a h1 h2 => h.apart a h2 h1⟩
theorem row_block {w : World} {B : Nat} {e : TypeId} {sz : Nat} {v : Value} {n : Nat} {xs : List Value} (h : w.ownsRow B e sz v n xs) (a : Nat) (ha : v.ownBlock = some a) : B ≤ a ∧ a < w.heap.size := by
  rcases h.2 with ⟨rfl, _⟩ | ⟨g, cap, cur, rfl, hb, hg, _⟩
  · simp [Value.ownBlock] at ha
  · simp [Value.ownBlock] at ha
    subst ha
    exact ⟨hb, (show Blk w g e cur from hg).lt⟩
theorem Rows2.step {W wr w4 : World} {e : TypeId} {v1 v2 : Value} {l1 l2 : List ByteArray} (h : Rows2 W wr e v1 v2 l1 l2) (o : Obj) {t : ByteArray} {g c : Nat} (hown : w4.ownsRow W.heap.size e 1 (.slice (some ⟨g, 0, none⟩) (l1.length + 1) c) (l1.length + 1) (l1.map .string ++ [.string t])) (hgrow : (wr.alloc o).grownBy w4 v1.ownBlock) (hat : v1.ownBlock = some g ∨ g = (wr.alloc o).heap.size) :
    Rows2 W w4 e (.slice (some ⟨g, 0, none⟩) (l1.length + 1) c) v2 (l1 ++ [t]) l2 := by
  have h1 := ownsRow_ext h.fst (Ext.alloc wr o)
  have h2 := ownsRow_ext h.snd (Ext.alloc wr o)
  have hE : Ext W (wr.alloc o) := h.later.alloc' o
  refine ⟨hE.grown hgrow hE.size fun q hq => (row_block h1 q hq).1, by simpa using hown, ⟨h2.1, ?_⟩, fun a ha hb => ?_⟩
  · rcases h2.2 with h | ⟨g', cap, cur, rfl, hb, hg, r⟩
    · exact .inl h
    · refine .inr ⟨g', cap, cur, rfl, hb, ?_, r⟩
      have hlt : g' < (wr.alloc o).heap.size := (show Blk _ g' e cur from hg).lt
      have hne : some g' ≠ v1.ownBlock := fun he => h.apart g' he.symm (by simp [Value.ownBlock])
      exact (hgrow.block g' hlt hne).trans hg
  · simp [Value.ownBlock] at ha
    subst ha
    rcases hat with hat | hat
    · exact h.apart _ hat hb
    · have := (row_block h2 _ hb).2
      omega
set_option maxRecDepth 100000 in
set_option maxHeartbeats 1000000 in
theorem under_any (w : World) (g : Nat) (R : Option Nat) (l : List PairI) (s : ByteArray) (hi : IdxAt w g R l) (hl : l.length ≤ 1000000) (hs : Srt l) (hz : ∀ x ∈ l, s.size + 1 ≤ maxLen) (hzl : ∀ x ∈ l, x.name.size ≤ maxLen) :
    Calls Try.prog 25 #[.pointer (some ⟨g, 0, none⟩), .string s] w (RetQ (fun v w' => Sl w' 1 v (Strs (underK s l))) w) := by
  have hi' := hi.ext (Ext.alloc w (.cells #[.string s] 9))
  have hb := Blk.new w 9 #[.string s]
  have hq := hb.cell (i := 0) rfl
  have lq := hb.lt
  have H := some_c _ g R l s 41 44 #[.pointer (some ⟨w.heap.size, 0, none⟩)] #[.pointer (some ⟨w.heap.size, 0, none⟩)] hi' hl hs
    (fun args W => run_callFunc Try.func41 (by kernel_rfl) (by kernel_rfl)) (fun args W => run_callFunc Try.func44 (by kernel_rfl) (by kernel_rfl)) (fun t => hpre t s) (fun t => cov s t)
    (fun W x hx hE => under1_c x.name s w.heap.size W ((hb.ext hE).cell rfl) (hzl x hx) (by have := hz x hx; omega)) (fun W x hx hE => under2_c x.name s w.heap.size W ((hb.ext hE).cell rfl) (hzl x hx) (hz x hx))
  have HH := hid H
  clear H hi hi' hb hs hzl hz
  unfold underK
  go_enter Try.func25, Try.ntmps25
  go_wp2_with (go_at_call 43; refine (HH.out).mono ?_; rintro e w' ⟨v, rfl, hv, hx⟩)
  go_ret
  exact ⟨_, rfl, hv, ((Ext.refl _).alloc' _).trans hx⟩
end Go.Proofs.Ytfoafookodldfaa
