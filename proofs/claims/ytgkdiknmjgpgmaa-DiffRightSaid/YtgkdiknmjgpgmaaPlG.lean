/-
  Equal texts; diff.Play between listings; lighteragelaw40.awake.
-/
import Derived.Test.YtgkdiknmjgpgmaaPlF
import Derived.Test.YtgkdiknmjgpgmaaFlH
namespace Go.Proofs.Ytgkdiknmjgpgmaa
set_option linter.unusedSimpArgs false
set_option linter.unusedVariables false
open Go.RowKit

theorem sl_str {w : World} {v : Value} {l : List ByteArray} (h : Sl w 1 v (l.map strC)) : ∃ A c, v = .slice A l.length c ∧ l.length ≤ c ∧ c ≤ maxLen ∧ (0 < l.length → ∃ b o, A = some ⟨b, o, none⟩ ∧ b < w.heap.size ∧ ∀ k (h : k < l.length), w.cell? ⟨b, o + k, none⟩ = some (.string l[k])) := by
  obtain ⟨A, c, h1, h2, h3, h4⟩ := sl_get h
  refine ⟨A, c, h1, h2, h3, fun hn => ?_⟩
  obtain ⟨b, o, h5, h6, h7⟩ := h4 hn
  refine ⟨b, o, h5, h6, fun k hk => ?_⟩
  have := h7 k hk 0 _ rfl
  simpa using this
theorem take_eqS {l m : List ByteArray} {k : Nat} (h : k < l.length) (h' : k < m.length) (ht : l.take k = m.take k) (he : l[k] = m[k]) : l.take (k + 1) = m.take (k + 1) := by
  rw [List.take_succ_eq_append_getElem h, List.take_succ_eq_append_getElem h', ht, he]
set_option maxRecDepth 100000 in
set_option maxHeartbeats 1000000 in
theorem texts_c (w : World) (u v : Value) (l m : List ByteArray) (hu : Sl w 1 u (l.map strC)) (hv : Sl w 1 v (m.map strC)) :
    Calls Try.prog 25 #[u, v] w (Ret (.bool (decide (l = m))) w) := by
  obtain ⟨A, c, rfl, h1, h2, h3⟩ := sl_str hu
  obtain ⟨B, d, rfl, k1, k2, k3⟩ := sl_str hv
  clear hu hv
  unfold maxLen at h2 k2
  by_cases hlen : l.length = m.length
  · go_enter Try.func25, Try.ntmps25
    go_wp2_with fail
    go_loopw [5] (fun i wr => ∃ k : Nat, k ≤ l.length ∧ i = .int .i64 k ∧ Ext w wr ∧ l.take k = m.take k) (fun i _ => l.length - (intOf i).toNat)
    case atStart => exact ⟨0, by omega, rfl, Ext.refl _, rfl⟩
    case round =>
      obtain ⟨k, hk, rfl, hE, ht⟩ := hrel
      by_cases hlt : k < l.length
      · obtain ⟨b, o, rfl, lb, hcell⟩ := h3 (by omega)
        obtain ⟨b', o', rfl, lb', hcell'⟩ := k3 (by omega)
        have c0 := hE.cell (hcell k hlt)
        have c1 := hE.cell (hcell' k (by omega))
        have Ht := hid ht
        have HE := hid hE
        clear hcell hcell' h3 k3 ht hE
        by_cases he : l[k] = m[k]
        · have hb : ((l[k]).toList == (m[k]).toList) = true := by simp [he]
          go_wp2_with fail
          go_quiet (fail)
          go_wp2_with fail
          go_roundw
          case rel => exact ⟨k + 1, by omega, by go_num, HE.out.drewN' _, take_eqS hlt (by omega) Ht.out he⟩
          case measure => simp [intOf]; omega
        · have hb : ((l[k]).toList == (m[k]).toList) = false := by rw [beq_toList]; simp [he]
          go_wp2_with fail
          go_quiet (fail)
          go_wp2_with fail
          go_ret
          refine ⟨?_, HE.out.drewN' _⟩
          have : l ≠ m := fun e => he (by subst e; rfl)
          simp [this]
      · obtain rfl : k = l.length := by omega
        have HE := hid hE
        have Ht := hid ht
        clear hE ht h3 k3
        go_wp2_with fail
        go_ret
        refine ⟨?_, HE.out⟩
        have := Ht.out
        rw [List.take_length, hlen, List.take_length] at this
        simp [this]
  · go_enter Try.func25, Try.ntmps25
    go_wp2_with fail
    go_ret
    refine ⟨?_, Ext.refl _⟩
    have : l ≠ m := fun e => hlen (by rw [e])
    simp [this]

theorem blt_strict : Strict blt := ⟨blt_irrefl, fun _ _ _ => blt_trans, fun _ _ => blt_total⟩
theorem rising_pair : ∀ {l : List LeafI}, Rising l → SrtL blt (l.map (·.name))
  | [], _ => List.Pairwise.nil
  | [x], _ => List.pairwise_singleton _ _
  | x :: y :: l, h => by
    have ih : SrtL blt ((y :: l).map (·.name)) := rising_pair (l := y :: l) fun k hk => by
      have := h (k + 1) (by simpa using hk)
      simpa using this
    have h0 := h 0 (by simp)
    unfold SrtL at *
    rw [List.map_cons, List.pairwise_cons]
    refine ⟨fun z hz => ?_, ih⟩
    simp only [List.getElem_cons_zero, List.getElem_cons_succ] at h0
    rcases List.mem_cons.1 hz with rfl | hz
    · exact h0
    · rw [List.map_cons, List.pairwise_cons] at ih
      exact blt_trans h0 (ih.1 z hz)
theorem names_of {b : List LeafI} (rb : Rising b) {S : List ByteArray} (hS : SrtL blt S) (hm : ∀ n, n ∈ S ↔ (wasM b n).isSome = true) : S.map (fun n => oneS n (getM (wasM b) n)) = namesK b := by
  have e : S = b.map (·.name) := srtL_eq blt_strict hS (rising_pair rb) fun n => by
    rw [hm, was_iff rb, List.mem_map]
  rw [e, List.map_map]
  unfold namesK
  refine List.map_congr_left fun x hx => ?_
  simp only [Function.comp, getM, was_some rb hx, Option.getD_some]
theorem turns_short {a b : List LeafI} (ha : ∀ x ∈ a, Slight x) (hb : ∀ x ∈ b, Slight x) : ∀ t ∈ allTurns a b, ShortT t := fun t ht => by
  unfold allTurns at ht
  obtain ⟨it, _, ht⟩ := List.mem_flatMap.1 ht
  have h1 : ∀ x, findK a it = some x → Slight x := fun x hx => ha x (List.mem_of_getElem? hx)
  have h2 : ∀ x, findK b it = some x → Slight x := fun x hx => hb x (List.mem_of_getElem? hx)
  generalize findK a it = u at ht h1
  generalize findK b it = v at ht h2
  have h0 : (⟨#[]⟩ : ByteArray).size ≤ 1000 := Nat.zero_le _
  cases u with
  | none =>
    cases v with
    | none => simp only [turnsK, List.mem_singleton] at ht; subst ht; exact ⟨h0, h0, h0⟩
    | some y =>
      have := h2 y rfl; unfold Slight at this
      simp only [turnsK, List.mem_singleton] at ht; subst ht; exact ⟨by simp only; omega, h0, by simp only; omega⟩
  | some x =>
    have hx := h1 x rfl; unfold Slight at hx
    cases v with
    | none => simp only [turnsK, List.mem_singleton] at ht; subst ht; exact ⟨by simp only; omega, h0, h0⟩
    | some y =>
      have hy := h2 y rfl; unfold Slight at hy
      simp only [turnsK] at ht
      rcases List.mem_append.1 ht with ht | ht
      · split at ht
        · cases ht
        · simp only [List.mem_singleton] at ht; subst ht; exact ⟨by simp only; omega, by simp only; omega, h0⟩
      · split at ht
        · cases ht
        · simp only [List.mem_singleton] at ht; subst ht; exact ⟨by simp only; omega, h0, by simp only; omega⟩
theorem plays_c (w : World) (u v : Value) (a b : List LeafI) (ha : Listing a) (hb : Listing b) (hu : Sl w 5 u (a.map LeafI.cells)) (hv : Sl w 4 v ((allTurns a b).map TurnI.cells)) :
    Calls Try.prog 26 #[u, v] w (RetQ (RowAt strC 1 (namesK b)) w) := by
  have hl := turns_len a b
  have hi := itemsL_len (a ++ b)
  rw [List.length_append] at hi
  have h1 := ha.2.1
  have h2 := hb.2.1
  refine (play_c w u v a (allTurns a b) hu hv (by omega) (by omega) ha.2.2 (turns_short ha.2.2 hb.2.2)).mono ?_
  rintro e w' ⟨v', rfl, ⟨S, hS, hm, hr⟩, hx⟩
  have hp : playM a (allTurns a b) = wasM b := funext fun n => play_all ha.1.1 hb.1.1 ha.1.2 hb.1.2 n
  rw [hp] at hm hr
  rw [names_of hb.1.1 hS hm] at hr
  exact ⟨_, rfl, hr, hx⟩
theorem plays_nil_c (w : World) (u : Value) (a : List LeafI) (ha : Listing a) (hu : Sl w 5 u (a.map LeafI.cells)) :
    Calls Try.prog 26 #[u, .slice none 0 0] w (RetQ (RowAt strC 1 (namesK a)) w) := by
  have h1 := ha.2.1
  refine (play_c w u _ a [] hu (Sl.nil w 4) (by omega) (by simp) ha.2.2 (fun t ht => by cases ht)).mono ?_
  rintro e w' ⟨v', rfl, ⟨S, hS, hm, hr⟩, hx⟩
  rw [play_nil] at hm hr
  rw [names_of ha.1.1 hS hm] at hr
  exact ⟨_, rfl, hr, hx⟩
def litA : LeafI := ⟨⟨#[97]⟩, ⟨#[97]⟩, ⟨1, 1⟩, ⟨#[49]⟩⟩
def litB : LeafI := ⟨⟨#[98]⟩, ⟨#[98]⟩, ⟨1, 1⟩, ⟨#[49]⟩⟩
theorem listing_one (x : LeafI) (h : Slight x) : Listing [x] := ⟨⟨fun k h => by simp at h, fun k h => by
  have : k = 0 := by simp at h; omega
  subst this
  simp [placeK]⟩, by simp, fun y hy => by rw [List.mem_singleton.1 hy]; exact h⟩
theorem turns_lit : allTurns [litA] [litB] = [⟨4, ⟨#[98]⟩, ⟨#[97]⟩, ⟨#[]⟩⟩] := by
  have e : itemsL ([litA] ++ [litB]) = [⟨1, 1⟩] := by rfl
  unfold allTurns
  rw [e]
  rfl
theorem rightB_of {l : List LeafI} (h : Rising l ∧ Once l) : rightB l = true := rightB_iff.2 h
end Go.Proofs.Ytgkdiknmjgpgmaa
