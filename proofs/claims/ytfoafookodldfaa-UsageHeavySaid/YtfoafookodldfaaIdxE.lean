/-
  Package index: New; what Put keeps.
-/
import Derived.Test.YtfoafookodldfaaIdxD
namespace Go.Proofs.Ytfoafookodldfaa
set_option linter.unusedSimpArgs false
set_option linter.unusedVariables false
open Go.RowKit

theorem putK_length (s : ByteArray) (k : Int) (l : List PairI) : (putK s k l).length ≤ l.length + 1 := by
  unfold putK
  split
  · simp
  · simp; omega
theorem hasK_true {s : ByteArray} {l : List PairI} (h : hasK s l = true) : ∃ h : rk s l < l.length, l[rk s l].name = s := by
  unfold hasK at h
  cases hq : l[rk s l]? with
  | none => rw [hq] at h; cases h
  | some p =>
    rw [hq] at h
    obtain ⟨h', rfl⟩ := List.getElem?_eq_some_iff.1 hq
    exact ⟨h', by simpa using h⟩
theorem srt_map (l : List PairI) : Srt l ↔ (l.map (·.name)).Pairwise fun a b => blt a b = true := by
  unfold Srt
  rw [List.pairwise_map]
theorem set_names {s : ByteArray} {k : Int} {l : List PairI} {r : Nat} (hr : r < l.length) (hn : l[r].name = s) : (l.set r ⟨s, k⟩).map (·.name) = l.map (·.name) := by
  rw [List.map_set]
  apply List.ext_getElem
  · simp
  · intro i h1 h2
    by_cases hir : r = i
    · subst hir; simp [hn]
    · rw [List.getElem_set_ne hir]
theorem srt_get {l : List PairI} (hs : Srt l) {i j : Nat} (hij : i < j) (hj : j < l.length) : blt (l[i]'(by omega)).name l[j].name = true := List.pairwise_iff_getElem.1 hs i j (by omega) hj hij
/-- behind the place of a name that is not there all are greater -/
theorem rk_greater {s : ByteArray} {l : List PairI} (hs : Srt l) (hn : hasK s l = false) (q : Nat) (hq : q < l.length) (hr : rk s l ≤ q) : blt s l[q].name = true := by
  obtain ⟨r1, r2, r3⟩ := rk_split hs s
  refine blt_total (r3 q hq hr) fun he => ?_
  rcases Nat.lt_or_ge (rk s l) q with h | h
  · have := srt_get hs h hq
    rw [he, r3 _ (by omega) (Nat.le_refl _)] at this
    cases this
  · have e : rk s l = q := by omega
    unfold hasK at hn
    rw [e, List.getElem?_eq_getElem hq] at hn
    simp [he] at hn
theorem putK_srt (s : ByteArray) (k : Int) {l : List PairI} (hs : Srt l) : Srt (putK s k l) := by
  unfold putK
  cases hn : hasK s l with
  | true =>
    obtain ⟨hr, hname⟩ := hasK_true hn
    rw [if_pos rfl, srt_map, set_names hr hname]
    exact (srt_map l).1 hs
  | false =>
    obtain ⟨r1, r2, r3⟩ := rk_split hs s
    rw [if_neg (by simp)]
    unfold Srt at hs ⊢
    rw [List.pairwise_append, List.pairwise_cons]
    refine ⟨hs.sublist (List.take_sublist _ _), ⟨fun y hy => ?_, hs.sublist (List.drop_sublist _ _)⟩, fun x hx y hy => ?_⟩
    · obtain ⟨i, hi, rfl⟩ := List.getElem_of_mem hy
      rw [List.length_drop] at hi
      rw [List.getElem_drop]
      exact rk_greater hs hn _ (by omega) (by omega)
    · obtain ⟨i, hi, rfl⟩ := List.getElem_of_mem hx
      rw [List.length_take] at hi
      rw [List.getElem_take]
      have hxs := r2 i (by omega) (by omega)
      rcases List.mem_cons.1 hy with rfl | hy
      · exact hxs
      · obtain ⟨j, hj, rfl⟩ := List.getElem_of_mem hy
        rw [List.length_drop] at hj
        rw [List.getElem_drop]
        exact blt_trans hxs (rk_greater hs hn _ (by omega) (by omega))

/-- names put one by one, each with its place -/
def newUpTo (names : List ByteArray) : Nat → List PairI
  | 0 => []
  | k + 1 => putK (names.getD k ⟨#[]⟩) k (newUpTo names k)
theorem newUpTo_srt (names : List ByteArray) : ∀ k, Srt (newUpTo names k)
  | 0 => List.Pairwise.nil
  | k + 1 => putK_srt _ _ (newUpTo_srt names k)
theorem newUpTo_length (names : List ByteArray) : ∀ k, (newUpTo names k).length ≤ k
  | 0 => Nat.le_refl _
  | k + 1 => Nat.le_trans (putK_length _ _ _) (Nat.succ_le_succ (newUpTo_length names k))

def Strs (l : List ByteArray) : List (List Value) := l.map fun s => [.string s]
theorem sl_str {w : World} {v : Value} {l : List ByteArray} (h : Sl w 1 v (Strs l)) : ∃ A c, v = .slice A l.length c ∧ l.length ≤ c ∧ c ≤ maxLen ∧ (0 < l.length → ∃ b o, A = some ⟨b, o, none⟩ ∧ b < w.heap.size ∧ ∀ k (h : k < l.length), w.cell? ⟨b, o + k, none⟩ = some (.string l[k])) := by
  obtain ⟨A, c, h1, h2, h3, h4⟩ := h
  simp only [Strs, List.length_map] at h1 h2 h4
  refine ⟨A, c, h1, h2, h3, fun hn => ?_⟩
  obtain ⟨b, o, h5, h6, h7⟩ := h4 hn
  refine ⟨b, o, h5, h6, fun k hk => ?_⟩
  have := h7 k [.string l[k]] 0 _ (by simp [hk]) rfl
  simpa using this

/-- An index that the call has made. -/
def NewIdx (B : Nat) (l : List PairI) (v : Value) (w : World) : Prop := ∃ g R, v = .pointer (some ⟨g, 0, none⟩) ∧ B ≤ g ∧ (∀ b, R = some b → B ≤ b) ∧ IdxAt w g R l
theorem NewIdx.steady (B : Nat) (l : List PairI) (v : Value) : Steady (NewIdx B l v) := fun _ _ he ⟨g, R, h1, h2, h3, h4⟩ => ⟨g, R, h1, h2, h3, h4.ext he⟩

set_option maxRecDepth 100000 in
set_option maxHeartbeats 4000000 in
theorem new_c (names : List ByteArray) (v : Value) (w : World) (hn : names.length ≤ 100000) (hs : Sl w 1 v (Strs names)) : Calls Try.prog 11 #[v] w (RetQ (NewIdx w.heap.size (newUpTo names names.length)) w) := by
  obtain ⟨A, c, rfl, hlc, hm, hc⟩ := sl_str hs
  clear hs
  unfold maxLen at hm
  go_enter Try.func11, Try.ntmps11
  go_wp2_with fail
  go_loopw [10] (fun i wr => ∃ k : Nat, k ≤ names.length ∧ i = .int .i64 k ∧ Below w.heap.size w wr ∧ ∃ R, (∀ b, R = some b → w.heap.size ≤ b) ∧ IdxAt wr w.heap.size R (newUpTo names k)) (fun i _ => names.length - (intOf i).toNat)
  case atStart =>
    refine ⟨0, by omega, rfl, (Ext.refl _).alloc' _, none, (fun b h => by cases h), ⟨0, Blk.new w _ _, Nat.le_refl _, by unfold maxLen; omega, fun _ => ⟨rfl, rfl⟩, fun b h => by cases h⟩⟩
  case round =>
    obtain ⟨k, hk, rfl, hb, R, hR, hI⟩ := hrel
    by_cases hlt : k < names.length
    · obtain ⟨b, o, rfl, hbl, hcell⟩ := hc (by omega)
      have c0 := (hb.cell (p := ⟨b, _, none⟩) hbl).trans (hcell k hlt)
      have HP := hid (put_c wr w.heap.size R (newUpTo names k) names[k] k hI (by have := newUpTo_length names k; omega) (newUpTo_srt names k))
      have e : Hid (newUpTo names (k + 1) = putK names[k] k (newUpTo names k)) := by unfold Hid; simp [newUpTo, hlt]
      have Hb := hid hb
      have HI := hid hI
      have HR := hid hR
      clear hcell hc hb hI hR
      go_wp2_with (go_at_call 13; refine (HP.out).mono ?_; rintro e' w' ⟨rfl, hd⟩; have HD := hid hd; clear hd)
      go_roundw
      case rel =>
        obtain ⟨R', hI', hR', hK⟩ := HD.out
        refine ⟨k + 1, by omega, by go_num, Hb.out.trans (hK.below Hb.out.size fun q hq => ?_), R', fun b' hb' => ?_, by rw [e.out]; exact hI'⟩
        · rcases hq with rfl | hq
          · exact Nat.le_refl _
          · exact HR.out q hq
        · rcases hR' with rfl | ⟨b2, h2, h3⟩
          · exact HR.out b' hb'
          · rw [h2] at hb'; injection hb' with hb'; subst hb'
            exact Nat.le_trans Hb.out.size h3
      case measure => simp [intOf]; omega
    · obtain rfl : k = names.length := by omega
      have Hb := hid hb
      have HI := hid hI
      have HR := hid hR
      clear hc hb hI hR
      go_wp2_with fail
      go_ret
      exact ⟨_, rfl, ⟨_, R, rfl, Nat.le_refl _, HR.out, HI.out⟩, Hb.out⟩
end Go.Proofs.Ytfoafookodldfaa
