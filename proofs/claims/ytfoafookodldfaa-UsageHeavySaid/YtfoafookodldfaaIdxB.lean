/-
  Package index: Rank, find, Get, At, Next.
-/
import Derived.Test.YtfoafookodldfaaIdxA
import Derived.Test.YtfoafookodldfaaStr
namespace Go.Proofs.Ytfoafookodldfaa
set_option linter.unusedSimpArgs false
set_option linter.unusedVariables false
open Go.RowKit

/-- in order, no name twice -/
def Srt (l : List PairI) : Prop := l.Pairwise fun a b => blt a.name b.name = true
/-- how many names are less -/
def rk (s : ByteArray) (l : List PairI) : Nat := (l.takeWhile fun p => blt p.name s).length
/-- how many names are not greater -/
def rkn (s : ByteArray) (l : List PairI) : Nat := (l.takeWhile fun p => !blt s p.name).length

theorem takeWhile_split {α : Type} (p : α → Bool) : ∀ (l : List α), l.Pairwise (fun a b => p b = true → p a = true) → (l.takeWhile p).length ≤ l.length ∧
    (∀ k (h : k < l.length), k < (l.takeWhile p).length → p l[k] = true) ∧ ∀ k (h : k < l.length), (l.takeWhile p).length ≤ k → p l[k] = false
  | [], _ => ⟨Nat.le_refl _, fun _ h => absurd h (by simp), fun _ h => absurd h (by simp)⟩
  | x :: l, h => by
    rw [List.pairwise_cons] at h
    obtain ⟨i1, i2, i3⟩ := takeWhile_split p l h.2
    cases hx : p x with
    | true =>
      have e : (x :: l).takeWhile p = x :: l.takeWhile p := by simp [hx]
      rw [e]
      refine ⟨by simp; omega, fun k hk hkt => ?_, fun k hk hkt => ?_⟩
      · cases k with
        | zero => simpa using hx
        | succ k => exact i2 k (by simpa using hk) (by simpa using hkt)
      · cases k with
        | zero => simp at hkt
        | succ k => exact i3 k (by simpa using hk) (by simpa using hkt)
    | false =>
      have e : (x :: l).takeWhile p = [] := by simp [hx]
      rw [e]
      refine ⟨by simp, fun k hk hkt => absurd hkt (by simp), fun k hk _ => ?_⟩
      cases k with
      | zero => simpa using hx
      | succ k =>
        have hk' : k < l.length := by simpa using hk
        cases hy : p l[k] with
        | false => simpa using hy
        | true => have := h.1 l[k] (List.getElem_mem _) hy; rw [hx] at this; cases this
theorem rk_split {l : List PairI} (hs : Srt l) (s : ByteArray) : rk s l ≤ l.length ∧ (∀ k (h : k < l.length), k < rk s l → blt l[k].name s = true) ∧ ∀ k (h : k < l.length), rk s l ≤ k → blt l[k].name s = false :=
  takeWhile_split _ l (hs.imp fun h k => blt_trans h k)
theorem rkn_split {l : List PairI} (hs : Srt l) (s : ByteArray) : rkn s l ≤ l.length ∧ (∀ k (h : k < l.length), k < rkn s l → blt s l[k].name = false) ∧ ∀ k (h : k < l.length), rkn s l ≤ k → blt s l[k].name = true := by
  have := takeWhile_split (fun p : PairI => !blt s p.name) l (hs.imp fun {a b} h k => by
    simp only [Bool.not_eq_true'] at k ⊢
    cases ha : blt s a.name with
    | false => rfl
    | true => rw [blt_trans ha h] at k; cases k)
  exact ⟨this.1, fun k h hk => by simpa using this.2.1 k h hk, fun k h hk => by simpa using this.2.2 k h hk⟩

set_option maxHeartbeats 400000 in
theorem rank1_c (x : PairI) (s : ByteArray) (q : Nat) (w : World) (hq : w.cell? ⟨q, 0, none⟩ = some (.string s)) (hql : q < w.heap.size) :
    Calls Try.prog 39 #[.agg #[.string x.name, .int .i64 x.n], .pointer (some ⟨q, 0, none⟩)] w (Ret (.bool (!blt x.name s)) w) := by
  go_enter Try.func39, Try.ntmps39
  go_wp2
  go_ret
  exact ⟨by simp [blt], (Ext.refl _).alloc' _⟩
set_option maxHeartbeats 400000 in
theorem next1_c (x : PairI) (s : ByteArray) (q : Nat) (w : World) (hq : w.cell? ⟨q, 0, none⟩ = some (.string s)) (hql : q < w.heap.size) :
    Calls Try.prog 40 #[.agg #[.string x.name, .int .i64 x.n], .pointer (some ⟨q, 0, none⟩)] w (Ret (.bool (blt s x.name)) w) := by
  go_enter Try.func40, Try.ntmps40
  go_wp2
  go_ret
  exact ⟨by simp [gt_blt], (Ext.refl _).alloc' _⟩

set_option maxHeartbeats 1000000 in
theorem rank_c (w : World) (g : Nat) (R : Option Nat) (l : List PairI) (s : ByteArray) (hi : IdxAt w g R l) (hl : l.length ≤ 1000000) (hs : Srt l) :
    Calls Try.prog 21 #[.pointer (some ⟨g, 0, none⟩), .string s] w (Ret (.int .i64 (rk s l)) w) := by
  obtain ⟨r1, r2, r3⟩ := rk_split hs s
  have hi' := hi.ext (Ext.alloc w (.cells #[.string s] 9))
  have hb := Blk.new w 9 #[.string s]
  have H := first_c _ g R l _ 39 #[.pointer (some ⟨w.heap.size, 0, none⟩)] hi' hl rfl (fun args W => run_callFunc Try.func39 (by kernel_rfl) (by kernel_rfl)) (fun x => !blt x.name s) (fun W x _ hE => rank1_c x s w.heap.size W ((hb.ext hE).cell rfl) (hb.ext hE).lt) (rk s l) r1 (fun k h hk => by simp [r2 k h hk]) (fun k h hk => by simp [r3 k h hk])
  have HH := hid H
  clear H hi hi' hb r1 r2 r3 hs
  go_enter Try.func21, Try.ntmps21
  go_wp2_with (go_at_call 38; refine (HH.out).mono ?_; rintro e w' ⟨rfl, hx⟩)
  go_ret
  exact ⟨rfl, ((Ext.refl _).alloc' _).trans hx⟩
end Go.Proofs.Ytfoafookodldfaa
