/-
  Package usage: prefixes, All.
-/
import Derived.Test.YtfoafookodldfaaUsE
import Derived.Test.YtfoafookodldfaaIdxR
import Derived.Deep.AppendLies
namespace Go.Proofs.Ytfoafookodldfaa
set_option linter.unusedSimpArgs false
set_option linter.unusedVariables false
open Go.RowKit

/-- An index in memory that the call has made. -/
def Single (w0 w : World) (g : Nat) (q : List PairI) : Prop := ∃ R, Mine w0.heap.size w g R q ∧ Ext w0 w
theorem Single.later {w0 w : World} {g : Nat} {q : List PairI} (h : Single w0 w g q) : Ext w0 w := h.choose_spec.2
theorem Single.ext {w0 w w' : World} {g : Nat} {q : List PairI} (h : Single w0 w g q) (he : Ext w w') : Single w0 w' g q := by
  obtain ⟨R, h1, h4⟩ := h
  exact ⟨R, ⟨h1.at_.ext he, h1.srt, h1.low⟩, h4.trans he⟩
theorem Single.put {w0 w : World} {g : Nat} {q : List PairI} (h : Single w0 w g q) (hl : q.length < 1000000) (s : ByteArray) (k : Int) :
    Calls Try.prog 13 #[.pointer (some ⟨g, 0, none⟩), .string s, .int .i64 k] w (fun e w' => e = .returned (.bool !hasK s q) ∧ Single w0 w' g (putK s k q)) := by
  obtain ⟨R, h1, h4⟩ := h
  refine (put_c w g R q s k h1.at_ hl h1.srt).mono ?_
  rintro e w' ⟨he, R', hI, hR, hK⟩
  have hB : Below w0.heap.size w w' := hK.below h4.size fun q hq => by
    rcases hq with rfl | hq
    · exact h1.low.1
    · exact h1.low.2 q hq
  refine ⟨he, R', ⟨hI, putK_srt s k h1.srt, h1.low.1, fun b hb => ?_⟩, Below.trans h4 hB⟩
  rcases hR with rfl | ⟨b2, rfl, h⟩
  · exact h1.low.2 b hb
  · injection hb with hb; subst hb; exact Nat.le_trans h4.size h
theorem Single.len {w0 w : World} {g : Nat} {q : List PairI} (h : Single w0 w g q) : Calls Try.prog 14 #[.pointer (some ⟨g, 0, none⟩)] w (fun e w' => e = .returned (.int .i64 q.length) ∧ w = w') := by
  obtain ⟨R, h1, _⟩ := h
  obtain ⟨A, c, hg, _⟩ := h1.at_.open_
  exact len_s w g _ _ _ hg
theorem Single.at_ {w0 w : World} {g : Nat} {q : List PairI} (h : Single w0 w g q) (k : Nat) (hk : k < q.length) : Calls Try.prog 15 #[.pointer (some ⟨g, 0, none⟩), .int .i64 k] w (Ret (.tuple #[.string q[k].name, .int .i64 q[k].n, .bool true]) w) := by
  obtain ⟨R, h1, _⟩ := h
  have := at_c w g R q k h1.at_
  unfold atK at this
  rw [if_pos (by omega), Int.toNat_natCast, List.getElem?_eq_getElem hk] at this
  exact this
theorem base0_new : newUpTo [(⟨#[]⟩ : ByteArray)] 1 = base0 := by
  simp [newUpTo, putK, hasK, rk, base0]

def Few100 (l : List LeafI) : Prop := l.length ≤ 100 ∧ ∀ x ∈ l, x.path.size ≤ 1000 ∧ x.data.size ≤ 1000
theorem Few100.slim {l : List LeafI} (h : Few100 l) : Slim l := ⟨Nat.le_trans h.1 (by omega), h.2⟩

set_option maxRecDepth 100000 in
set_option maxHeartbeats 2000000 in
theorem pre_c (w : World) (v : Value) (l : List LeafI) (h : Sl w 5 v (Leaves l)) (hs : Few100 l) : Calls Try.prog 48 #[v] w (fun e w' => ∃ g, e = .returned (.pointer (some ⟨g, 0, none⟩)) ∧ Single w w' g (preK l)) := by
  obtain ⟨A, c, rfl, h1, h2, h3⟩ := sl_leaf h
  obtain ⟨s1, s2⟩ := hs
  clear h
  unfold maxLen at h2
  have hsl : ∀ W : World, Sl (W.alloc (.cells #[.string ⟨#[]⟩] 9)) 1 (.slice (some ⟨W.heap.size, 0, none⟩) 1 1) (Strs [⟨#[]⟩]) := fun W =>
    Sl.of_flat (Blk.new W 9 _) ⟨[], rfl⟩ (by simp [Strs]) rfl (Nat.le_refl _) (by unfold maxLen; omega)
  have HS := hid hsl
  clear hsl
  go_enter Try.func48, Try.ntmps48
  go_wp2_with (go_at_call 11; refine (new_c [⟨#[]⟩] _ _ (by simp) (HS.out _)).mono ?_; rintro e w1 ⟨v1, rfl, hv, hx⟩; obtain ⟨g, R, rfl, hg, hR, hI⟩ := hv; have hI' : IdxAt w1 g R base0 := (by rw [← base0_new]; exact hI); have HX : Hid (Ext w w1) := (Ext.alloc w _).trans hx; have HM : Hid (Single w w1 g base0) := ⟨R, ⟨hI', base0_srt, Nat.le_trans (Ext.alloc w _).size hg, fun b hb => Nat.le_trans (Ext.alloc w _).size (hR b hb)⟩, HX.out⟩; clear hI hI' hx hg hR HX)
  clear HS
  go_wp2_with fail
  go_loopw [11] (fun i wr => ∃ k : Nat, k ≤ l.length ∧ i = .int .i64 k ∧ Single w wr g (preK (l.take k))) (fun i _ => l.length - (intOf i).toNat)
  case atStart => exact ⟨0, by omega, rfl, HM.out⟩
  case round =>
    obtain ⟨k, hk, rfl, hM⟩ := hrel
    by_cases hlt : k < l.length
    · obtain ⟨b, o, rfl, lb, hcell⟩ := h3 (by omega)
      obtain ⟨c0, c1, c2, c3, c4⟩ := hcell k hlt
      have e0 := hM.later.cell c0
      have e1 := hM.later.cell c1
      have e2 := hM.later.cell c2
      have e3 := hM.later.cell c3
      have e4 := hM.later.cell c4
      have lb1 := Nat.lt_of_lt_of_le lb hM.later.size
      have hsz := (s2 _ (List.getElem_mem hlt)).1
      have HT := hid (pre_take l k hlt)
      have hq : (preK (l.take k)).length ≤ 1 + 100 * 1001 := by
        have := pre_length (l := l.take k) (fun x hx => (s2 x (List.mem_of_mem_take hx)).1)
        rw [List.length_take] at this
        have h3 : min k l.length * 1001 ≤ 100 * 1001 := Nat.mul_le_mul_right _ (by omega)
        omega
      have HM := hid hM
      clear hcell h3 hM c0 c1 c2 c3 c4 s2
      generalize l[k] = x at e0 e1 e2 e3 e4 HT hsz
      generalize preK (l.take k) = q0 at HM HT hq
      go_wp2_with fail
      go_step3
      go_wp2_with fail
      go_step3
      go_wp2_with fail
      go_loopw [6] (fun t wr' => ∃ (n : Nat) (s : ByteArray) (q : List PairI), t = .string s ∧ s.size ≤ n ∧ n ≤ x.path.size ∧ q.length + (n + 1) ≤ q0.length + (x.path.size + 1) ∧ putZ q (chainN n s) = preK (l.take (k + 1)) ∧ Single w wr' g q) (fun t _ => match t with | .string s => s.size | _ => 0)
      case atStart => exact ⟨x.path.size, x.path, q0, rfl, Nat.le_refl _, Nat.le_refl _, Nat.le_refl _, HT.out.symm, HM.out.ext (Ext.alloc _ _)⟩
      case round =>
        obtain ⟨n, s, q, rfl, hn, hnx, hql, hch, hM⟩ := hrel
        have HP := hid (hM.put (by omega) s 0)
        have HPar : Hid (∀ W, Calls Try.prog 52 #[.string s] W (fun e w' => e = .returned (.string (parentK s)) ∧ W = w')) := fun W => parent_c s W (by omega)
        have HCh := hid hch
        clear HM hM hch HT
        cases he : s.toList.isEmpty with
        | true =>
          have HF : Hid (putK s 0 q = preK (l.take (k + 1))) := by
            have := HCh.out
            rw [show chainN n s = [s] by cases n <;> simp [chainN, he]] at this
            exact this
          go_wp2_with (go_at_call 13; refine (HP.out).mono ?_; rintro e w' ⟨rfl, hM⟩; have HM := hid hM; clear hM)
          rw [Exit.noGoto_normal]
          go_wp2_with fail
          go_roundw
          case rel => exact ⟨k + 1, by omega, by go_num, by rw [← HF.out]; exact HM.out⟩
          case measure => simp [intOf]; omega
        | false =>
          have hne : ¬ s.toList.isEmpty = true := by rw [he]; simp
          have hps := parent_size hne
          cases n with
          | zero => exact absurd hps (by omega)
          | succ n =>
            have HF : Hid (putZ (putK s 0 q) (chainN n (parentK s)) = preK (l.take (k + 1))) := by
              have := HCh.out
              unfold chainN at this
              rw [if_neg hne] at this
              exact this
            have hpl := putK_length s 0 q
            clear HCh hne
            go_wp2_with (first
              | (go_at_call 13; refine (HP.out).mono ?_; rintro e w' ⟨rfl, hM⟩; have HM := hid hM; clear hM)
              | (go_at_call 52; refine (HPar.out _).mono ?_; rintro e w' ⟨rfl, rfl⟩))
            go_roundw
            case rel => exact ⟨n, parentK s, putK s 0 q, rfl, by omega, by omega, by omega, HF.out, HM.out⟩
            case measure => exact hps
    · obtain rfl : k = l.length := by omega
      rw [List.take_length] at hM
      have HM := hid hM
      clear h3 hM
      go_wp2_with fail
      go_ret
      exact ⟨g, rfl, HM.out⟩
end Go.Proofs.Ytfoafookodldfaa
