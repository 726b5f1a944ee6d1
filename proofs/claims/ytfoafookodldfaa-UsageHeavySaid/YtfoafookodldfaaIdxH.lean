/-
  Package index: Begins, Under; the document's Texts.
-/
import Derived.Test.YtfoafookodldfaaIdxG
namespace Go.Proofs.Ytfoafookodldfaa
set_option linter.unusedSimpArgs false
set_option linter.unusedVariables false
open Go.RowKit

def beginsK (s : ByteArray) (l : List PairI) : List ByteArray := restK (fun t => hpre t s) (fun t => hpre t s) l (rk s l)
def underK (s : ByteArray) (l : List PairI) : List ByteArray := restK (fun t => hpre t s) (fun t => cov s t) l (rk s l)

set_option maxRecDepth 100000 in
set_option maxHeartbeats 1000000 in
theorem under_c (w : World) (g : Nat) (R : Option Nat) (l : List PairI) (s : ByteArray) (hi : IdxAt w g R l) (hl : l.length ≤ 1000000) (hs : Srt l) (hz : s.size + 1 ≤ maxLen) (hzl : ∀ x ∈ l, x.name.size ≤ maxLen) :
    Calls Try.prog 25 #[.pointer (some ⟨g, 0, none⟩), .string s] w (RetQ (fun v w' => Sl w' 1 v (Strs (underK s l))) w) := by
  have hi' := hi.ext (Ext.alloc w (.cells #[.string s] 9))
  have hb := Blk.new w 9 #[.string s]
  have hq := hb.cell (i := 0) rfl
  have lq := hb.lt
  have H := some_c _ g R l s 41 44 #[.pointer (some ⟨w.heap.size, 0, none⟩)] #[.pointer (some ⟨w.heap.size, 0, none⟩)] hi' hl hs
    (fun args W => run_callFunc Try.func41 (by kernel_rfl) (by kernel_rfl)) (fun args W => run_callFunc Try.func44 (by kernel_rfl) (by kernel_rfl)) (fun t => hpre t s) (fun t => cov s t)
    (fun W x hx hE => under1_c x.name s w.heap.size W ((hb.ext hE).cell rfl) (hzl x hx) (by omega)) (fun W x hx hE => under2_c x.name s w.heap.size W ((hb.ext hE).cell rfl) (hzl x hx) hz)
  have HH := hid H
  clear H hi hi' hb hs hzl
  unfold underK
  go_enter Try.func25, Try.ntmps25
  go_wp2_with (go_at_call 43; refine (HH.out).mono ?_; rintro e w' ⟨v, rfl, hv, hx⟩)
  go_ret
  exact ⟨_, rfl, hv, ((Ext.refl _).alloc' _).trans hx⟩
set_option maxRecDepth 100000 in
set_option maxHeartbeats 1000000 in
theorem begins_c (w : World) (g : Nat) (R : Option Nat) (l : List PairI) (s : ByteArray) (hi : IdxAt w g R l) (hl : l.length ≤ 1000000) (hs : Srt l) (hz : s.size ≤ maxLen) (hzl : ∀ x ∈ l, x.name.size ≤ maxLen) :
    Calls Try.prog 26 #[.pointer (some ⟨g, 0, none⟩), .string s] w (RetQ (fun v w' => Sl w' 1 v (Strs (beginsK s l))) w) := by
  have hi' := hi.ext (Ext.alloc w (.cells #[.string s] 9))
  have hb := Blk.new w 9 #[.string s]
  have hq := hb.cell (i := 0) rfl
  have lq := hb.lt
  have H := some_c _ g R l s 46 46 #[.pointer (some ⟨w.heap.size, 0, none⟩)] #[.pointer (some ⟨w.heap.size, 0, none⟩)] hi' hl hs
    (fun args W => run_callFunc Try.func46 (by kernel_rfl) (by kernel_rfl)) (fun args W => run_callFunc Try.func46 (by kernel_rfl) (by kernel_rfl)) (fun t => hpre t s) (fun t => hpre t s)
    (fun W x hx hE => begins1_c x.name s w.heap.size W ((hb.ext hE).cell rfl) (hzl x hx) hz) (fun W x hx hE => begins1_c x.name s w.heap.size W ((hb.ext hE).cell rfl) (hzl x hx) hz)
  have HH := hid H
  clear H hi hi' hb hs hzl
  unfold beginsK
  go_enter Try.func26, Try.ntmps26
  go_wp2_with (go_at_call 43; refine (HH.out).mono ?_; rintro e w' ⟨v, rfl, hv, hx⟩)
  go_ret
  exact ⟨_, rfl, hv, ((Ext.refl _).alloc' _).trans hx⟩

theorem take_eq {α : Type} [DecidableEq α] {l m : List α} {k : Nat} (h : k < l.length) (h' : k < m.length) (ht : l.take k = m.take k) (he : l[k] = m[k]) : l.take (k + 1) = m.take (k + 1) := by
  rw [List.take_succ_eq_append_getElem h, List.take_succ_eq_append_getElem h', ht, he]
set_option maxRecDepth 100000 in
set_option maxHeartbeats 1000000 in
theorem texts_c (w : World) (u v : Value) (l m : List ByteArray) (hu : Sl w 1 u (Strs l)) (hv : Sl w 1 v (Strs m)) :
    Calls Try.prog 24 #[u, v] w (Ret (.bool (decide (l = m))) w) := by
  obtain ⟨A, c, rfl, h1, h2, h3⟩ := sl_str hu
  obtain ⟨B, d, rfl, k1, k2, k3⟩ := sl_str hv
  clear hu hv
  unfold maxLen at h2 k2
  by_cases hlen : l.length = m.length
  · go_enter Try.func24, Try.ntmps24
    go_wp2_with fail
    go_loopw [5] (fun i wr => ∃ k : Nat, k ≤ l.length ∧ i = .int .i64 k ∧ Ext w wr ∧ l.take k = m.take k) (fun i _ => l.length - (intOf i).toNat)
    case atStart => exact ⟨0, by omega, rfl, Ext.refl _, rfl⟩
    case round =>
      obtain ⟨k, hk, rfl, hE, ht⟩ := hrel
      by_cases hlt : k < l.length
      · obtain ⟨b, o, rfl, lb, hcell⟩ := h3 (by omega)
        obtain ⟨b', o', rfl, lb', hcell'⟩ := k3 (by omega)
        have c0 := hE.cell (hcell k hlt)
        have c1 := hE.cell (hcell' k (by omega))
        have Ht := hid ht
        have HE := hid hE
        clear hcell hcell' h3 k3 ht hE
        by_cases he : l[k] = m[k]
        · have hb : ((l[k]).toList == (m[k]).toList) = true := by simp [he]
          go_wp2_with fail
          go_quiet (fail)
          go_wp2_with fail
          go_roundw
          case rel => exact ⟨k + 1, by omega, by go_num, HE.out.drewN' _, take_eq hlt (by omega) Ht.out he⟩
          case measure => simp [intOf]; omega
        · have hb : ((l[k]).toList == (m[k]).toList) = false := by rw [beq_toList]; simp [he]
          go_wp2_with fail
          go_quiet (fail)
          go_wp2_with fail
          go_ret
          refine ⟨?_, HE.out.drewN' _⟩
          have : l ≠ m := fun e => he (by subst e; rfl)
          simp [this]
      · obtain rfl : k = l.length := by omega
        have HE := hid hE
        have Ht := hid ht
        clear hE ht h3 k3
        go_wp2_with fail
        go_ret
        refine ⟨?_, HE.out⟩
        have := Ht.out
        rw [List.take_length, hlen, List.take_length] at this
        simp [this]
  · go_enter Try.func24, Try.ntmps24
    go_wp2_with fail
    go_ret
    refine ⟨?_, Ext.refl _⟩
    have : l ≠ m := fun e => hlen (by rw [e])
    simp [this]
end Go.Proofs.Ytfoafookodldfaa
