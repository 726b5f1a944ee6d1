/-
  Package index: what an index is in memory; Len, first, Rank, find, Get, At, Next.
-/
import Derived.Test.YtfoafookodldfaaProg
import Derived.Test.YtfoafookodldfaaBase
import Derived.Sort.Walk0
namespace Go.Proofs.Ytfoafookodldfaa
set_option linter.unusedSimpArgs false
set_option linter.unusedVariables false
open Go.RowKit

structure PairI where
  name : ByteArray
  n : Int
def PairI.cells (p : PairI) : List Value := [.string p.name, .int .i64 p.n]
def sle (a b : ByteArray) : Bool := Op.bytesLess a.toList b.toList

/-- An index: a block of one cell, a slice of pairs in another one (or nil). -/
structure IdxAt (w : World) (g : Nat) (R : Option Nat) (l : List PairI) : Prop where
  ex : ∃ c, Blk w g 74 #[.slice (R.map fun b => ⟨b, 0, none⟩) l.length c] ∧ l.length ≤ c ∧ c ≤ maxLen ∧ (R = none → l = [] ∧ c = 0) ∧
    ∀ b, R = some b → b ≠ g ∧ ∃ cs, Blk w b 76 cs ∧ c * 2 ≤ cs.size ∧ ∀ k (h : k < l.length), cs[k * 2]? = some (.string l[k].name) ∧ cs[k * 2 + 1]? = some (.int .i64 l[k].n)

theorem IdxAt.ext {w w' : World} {g : Nat} {R : Option Nat} {l : List PairI} (h : IdxAt w g R l) (he : Ext w w') : IdxAt w' g R l := by
  obtain ⟨c, h1, h2, h3, h4, h5⟩ := h.ex
  exact ⟨c, h1.ext he, h2, h3, h4, fun b hb => by obtain ⟨hn, cs, h6, h7, h8⟩ := h5 b hb; exact ⟨hn, cs, h6.ext he, h7, h8⟩⟩

/-- What a walk reads of it. -/
theorem IdxAt.open_ {w : World} {g : Nat} {R : Option Nat} {l : List PairI} (h : IdxAt w g R l) : ∃ A c, w.cell? ⟨g, 0, none⟩ = some (.slice A l.length c) ∧ g < w.heap.size ∧ l.length ≤ c ∧ c ≤ maxLen ∧
    (0 < l.length → ∃ b, A = some ⟨b, 0, none⟩ ∧ b < w.heap.size ∧ ∀ k (h : k < l.length), w.cell? ⟨b, k * 2, none⟩ = some (.string l[k].name) ∧ w.cell? ⟨b, k * 2 + 1, none⟩ = some (.int .i64 l[k].n)) := by
  obtain ⟨c, h1, h2, h3, h4, h5⟩ := h.ex
  refine ⟨_, c, h1.cell (i := 0) rfl, h1.lt, h2, h3, fun hp => ?_⟩
  cases R with
  | none => have := (h4 rfl).1; subst this; simp at hp
  | some b =>
    obtain ⟨_, cs, h6, _, h8⟩ := h5 b rfl
    exact ⟨b, rfl, h6.lt, fun k hk => ⟨h6.cell (h8 k hk).1, h6.cell (h8 k hk).2⟩⟩

set_option maxHeartbeats 400000 in
theorem len_nil (w : World) : Calls Try.prog 14 #[.pointer none] w fun e w' => e = .returned (.int .i64 0) ∧ w = w' := by
  go_enter Try.func14, Try.ntmps14
  go_wp2_with fail
  go_ret
  exact ⟨rfl, rfl⟩
set_option maxHeartbeats 400000 in
theorem len_s (w : World) (g : Nat) (A : Option Addr) (n c : Nat) (hg : w.cell? ⟨g, 0, none⟩ = some (.slice A n c)) :
    Calls Try.prog 14 #[.pointer (some ⟨g, 0, none⟩)] w fun e w' => e = .returned (.int .i64 n) ∧ w = w' := by
  go_enter Try.func14, Try.ntmps14
  go_wp2_with fail
  go_ret
  exact ⟨rfl, rfl⟩

set_option maxRecDepth 100000 in
set_option maxHeartbeats 2000000 in
/-- 'first': the first place of which something is so, all behind it being so, too. -/
theorem first_c (w : World) (g : Nat) (R : Option Nat) (l : List PairI) (fn : Value) (f : Nat) (cap : Array Value) (hi : IdxAt w g R l) (hl : l.length ≤ 1000000) (hfn : fn = .func (.func f) #[] cap) (hcf : ∀ (args : Array Value) (W : World), (callFunc f args).run Try.prog W = .ok (.enter f args) W) (p : PairI → Bool)
    (hp : ∀ W x, x ∈ l → Ext w W → Hid (Calls Try.prog f (#[.agg #[.string x.name, .int .i64 x.n]] ++ cap) W (Ret (.bool (p x)) W)))
    (r : Nat) (hr : r ≤ l.length) (hlo : ∀ k (h : k < l.length), k < r → p l[k] = false) (hhi : ∀ k (h : k < l.length), r ≤ k → p l[k] = true) :
    Calls Try.prog 38 #[.pointer (some ⟨g, 0, none⟩), fn] w (Ret (.int .i64 r) w) := by
  subst hfn
  obtain ⟨A, c, hg, hgl, hlc, hm, hc⟩ := hi.open_
  unfold maxLen at hm
  go_enter Try.func38, Try.ntmps38
  go_wp2_with fail
  go_step3
  go_wp2_with (go_at_call 14; refine (len_s _ _ _ _ _ hg).mono ?_; rintro e w' ⟨rfl, rfl⟩)
  go_step3
  go_wp2_with fail
  go_loopw [5, 6] (fun a b wr => ∃ lo hi : Nat, lo ≤ r ∧ r ≤ hi ∧ hi ≤ l.length ∧ a = .int .i64 lo ∧ b = .int .i64 hi ∧ Ext w wr) (fun a b _ => (intOf b).toNat - (intOf a).toNat)
  case atStart => exact ⟨0, l.length, by omega, by omega, by omega, rfl, rfl, Ext.refl _⟩
  case round =>
    obtain ⟨lo, hi', h1, h2, h3, rfl, rfl, hE⟩ := hrel
    by_cases hlt : lo < hi'
    · have hml : (lo + hi') / 2 < l.length := by omega
      obtain ⟨b, rfl, hbl, hcell⟩ := hc (by omega)
      have c0 := hE.cell (hcell _ hml).1
      have c1 := hE.cell (hcell _ hml).2
      have cg := hE.cell hg
      have HP := hp wr l[(lo + hi') / 2] (List.getElem_mem hml) hE
      have HE := hid hE
      have Hlo := hid (hlo _ hml)
      have Hhi := hid (hhi _ hml)
      clear hE hcell hc hlo hhi hp hg
      go_wp2_with fail
      refine (HP.out).mono ?_
      rintro e w' ⟨rfl, hx⟩
      cases hpm : p l[(lo + hi') / 2]
      · have hrm : (lo + hi') / 2 < r := by
          rcases Nat.lt_or_ge ((lo + hi') / 2) r with h | h
          · exact h
          · rw [Hhi.out h] at hpm; cases hpm
        go_wp2_with fail
        go_roundw
        case rel => exact ⟨(lo + hi') / 2 + 1, hi', by omega, by omega, by omega, by go_num, rfl, HE.out.trans hx⟩
        case measure => simp [intOf]; omega
      · have hrm : r ≤ (lo + hi') / 2 := by
          rcases Nat.lt_or_ge ((lo + hi') / 2) r with h | h
          · rw [Hlo.out h] at hpm; cases hpm
          · exact h
        go_wp2_with fail
        go_roundw
        case rel => exact ⟨lo, (lo + hi') / 2, by omega, by omega, by omega, rfl, by go_num, HE.out.trans hx⟩
        case measure => simp [intOf]; omega
    · obtain rfl : lo = r := by omega
      obtain rfl : hi' = lo := by omega
      have HE := hid hE
      clear hE hc hlo hhi hp
      go_wp2_with fail
      rw [Exit.noGoto_ret]
      go_ret
      exact ⟨rfl, HE.out⟩
end Go.Proofs.Ytfoafookodldfaa
