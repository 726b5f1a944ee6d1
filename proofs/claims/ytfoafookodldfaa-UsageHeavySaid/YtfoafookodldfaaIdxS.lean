/-
  lighteragelaw42.IndexOrder: its walk.
-/
import Derived.Test.YtfoafookodldfaaIdxR
namespace Go.Proofs.Ytfoafookodldfaa
set_option linter.unusedSimpArgs false
set_option linter.unusedVariables false
open Go.RowKit

def Bytes8 (l : List Int) : List (List Value) := l.map fun z => [.int .u8 z]
theorem sl_b8 {w : World} {v : Value} {l : List Int} (h : Sl w 1 v (Bytes8 l)) : ∃ A c, v = .slice A l.length c ∧ l.length ≤ c ∧ c ≤ maxLen ∧ (0 < l.length → ∃ b o, A = some ⟨b, o, none⟩ ∧ b < w.heap.size ∧ ∀ k (h : k < l.length), w.cell? ⟨b, o + k, none⟩ = some (.int .u8 l[k])) := by
  obtain ⟨A, c, h1, h2, h3, h4⟩ := h
  simp only [Bytes8, List.length_map] at h1 h2 h4
  refine ⟨A, c, h1, h2, h3, fun hn => ?_⟩
  obtain ⟨b, o, h5, h6, h7⟩ := h4 hn
  refine ⟨b, o, h5, h6, fun k hk => ?_⟩
  have := h7 k [.int .u8 l[k]] 0 _ (by simp [hk]) rfl
  simpa using this
theorem two_start {w w1 w2 : World} {v1 v2 : Value} (h1 : NewIdx w.heap.size [] v1 w1) (x1 : Ext w w1) (h2 : NewIdx w1.heap.size [] v2 w2) (x2 : Ext w1 w2) : ∃ g1 g2, v1 = .pointer (some ⟨g1, 0, none⟩) ∧ v2 = .pointer (some ⟨g2, 0, none⟩) ∧ Two w w2 g1 g2 [] [] := by
  obtain ⟨g1, R1, rfl, a1, a2, a3⟩ := h1
  obtain ⟨g2, R2, rfl, b1, b2, b3⟩ := h2
  obtain ⟨lt1, ltR1⟩ := a3.lt
  refine ⟨g1, g2, rfl, rfl, R1, R2, ⟨a3.ext x2, List.Pairwise.nil, a1, a2⟩, ⟨b3, List.Pairwise.nil, Nat.le_trans x1.size b1, fun b hb => Nat.le_trans x1.size (b2 b hb)⟩, ⟨by omega, fun e => ?_, fun e => ?_, fun x hx e => ?_⟩, x1.trans x2⟩
  · have := ltR1 _ e; omega
  · have := b2 _ e; omega
  · have := ltR1 x hx; have := b2 x e; omega



set_option maxRecDepth 100000 in
set_option maxHeartbeats 4000000 in
theorem iorder_walk (w : World) (A : Option Addr) (c : Nat) (l : List ByteArray) (B : Option Addr) (d : Nat) (os : List Int) (hl : l.length ≤ 30) (hlc : l.length ≤ c) (hm : c ≤ maxLen)
    (hc : 0 < l.length → ∃ b o, A = some ⟨b, o, none⟩ ∧ b < w.heap.size ∧ ∀ k (h : k < l.length), w.cell? ⟨b, o + k, none⟩ = some (.string l[k]))
    (hod : os.length ≤ d) (hdm : d ≤ maxLen) (ho : 0 < os.length → ∃ b o, B = some ⟨b, o, none⟩ ∧ b < w.heap.size ∧ ∀ k (h : k < os.length), w.cell? ⟨b, o + k, none⟩ = some (.int .u8 os[k])) (hb : ∀ z ∈ os, 0 ≤ z ∧ z ≤ 255) :
    Calls Try.prog 3 #[.slice A l.length c, .slice B os.length d] w (Ret (.bool true) w) := by
  have HN : Hid (∀ W : World, Calls Try.prog 11 #[.slice none 0 0] W (RetQ (NewIdx W.heap.size []) W)) := fun W => new_c [] _ W (by simp) (Sl.nil W 1)
  unfold maxLen at hm hdm
  go_enter Try.func3, Try.ntmps3
  go_wp2_with (first
    | (go_at_call 11; refine (HN.out _).mono ?_; rintro e w2 ⟨v2, rfl, hv2, hx2⟩; obtain ⟨g1, g2, rfl, rfl, ht⟩ := two_start HV1.out HX1.out hv2 hx2; have HT := hid ht; clear hv2 hx2 ht HV1 HX1)
    | (go_at_call 11; refine (HN.out _).mono ?_; rintro e w1 ⟨v1, rfl, hv1, hx1⟩; have HV1 := hid hv1; have HX1 := hid hx1; clear hv1 hx1))
  clear HN
  go_loopw [7] (fun i wr => ∃ k : Nat, k ≤ l.length ∧ i = .int .i64 k ∧ Two w wr g1 g2 (putAll [] (l.take k)) []) (fun i _ => l.length - (intOf i).toNat)
  case atStart => exact ⟨0, by omega, rfl, HT.out⟩
  case round =>
    obtain ⟨k, hk, rfl, hT⟩ := hrel
    by_cases hlt : k < l.length
    · obtain ⟨b, o, hA, hbl, hcell⟩ := hc (by omega); cases hA
      have c0 := hT.later.cell (hcell k hlt)
      obtain ⟨f1, f2, f3, f4⟩ := putAll_facts [] (l.take k) List.Pairwise.nil (fun p hp => by cases hp)
      have HP := hid (hT.put (by rw [List.length_nil, List.length_take] at f3; omega) l[k] 1)
      have e := hid (putAll_take [] l k hlt)
      have HL := hid hT.later
      clear hcell hc hT f1 f2 f3 f4 ho
      generalize l[k] = t at c0 HP e
      by_cases h200 : 200 < t.size
      · have h2 : decide ((200 : Int) < (t.size : Int)) = true := by simp; omega
        go_wp2_with (go_at_call 12; refine (awake_c _).mono ?_; rintro e v2 ⟨rfl, z2⟩)
        go_ret
        exact ⟨rfl, HL.out.trans z2⟩
      · have h2 : decide ((200 : Int) < (t.size : Int)) = false := by simp; omega
        go_wp2_with (go_at_call 13; refine (HP.out).mono ?_; rintro e' w' ⟨rfl, hT'⟩; have HT' := hid hT'; clear hT')
        go_roundw
        case rel => exact ⟨k + 1, by omega, by go_num, by rw [e.out]; exact HT'.out⟩
        case measure => simp [intOf]; omega
    · obtain rfl : k = l.length := by omega
      rw [List.take_length] at hT
      have HT := hid hT
      clear hT
      go_wp2_with fail
      go_loopw [8] (fun i wr => ∃ k : Nat, k ≤ os.length ∧ k ≤ 60 ∧ i = .int .i64 k ∧ ∃ xs : List ByteArray, xs.length ≤ k ∧ (∀ t ∈ xs, t ∈ l) ∧ Two w wr g1 g2 (putAll [] l) (putAll [] xs)) (fun i _ => os.length - (intOf i).toNat)
      case atStart => exact ⟨0, by omega, by omega, rfl, [], Nat.le_refl _, (fun t ht => by cases ht), HT.out⟩
      case round =>
        obtain ⟨k, hk, hk60, rfl, xs, hxs, hxl, hT⟩ := hrel
        by_cases hgo : k < os.length ∧ k < 60 ∧ 0 < l.length
        · obtain ⟨hgo1, hgo2, hgo3⟩ := hgo
          obtain ⟨b, o, hA, hbl, hcell⟩ := hc hgo3; cases hA
          obtain ⟨b', o', rfl, hbl', hcell'⟩ := ho (by omega)
          obtain ⟨z, hz⟩ : ∃ z : Nat, os[k] = (z : Int) := ⟨os[k].toNat, by have := hb os[k] (List.getElem_mem hgo1); omega⟩
          have hz255 : z ≤ 255 := by have := hb os[k] (List.getElem_mem hgo1); omega
          have hj : z % l.length < l.length := Nat.mod_lt _ hgo3
          have c0 := hT.later.cell (hcell (z % l.length) hj)
          have c1 := hT.later.cell (hcell' k hgo1)
          rw [hz] at c1
          have hmem := hid (List.getElem_mem hj)
          have HP := hid (hT.symm.put (by obtain ⟨_, _, f3, _⟩ := putAll_facts [] xs List.Pairwise.nil (fun p hp => by cases hp); rw [List.length_nil] at f3; omega) l[z % l.length] 1)
          have HXL := hid hxl
          clear hcell hcell' hc ho hT hz hb hxl
          generalize l[z % l.length] = t at c0 HP hmem
          go_wp2_with (go_at_call 13; refine (HP.out).mono ?_; rintro e' w' ⟨rfl, hT'⟩; have HT' := hid hT'.symm; clear hT')
          go_roundw
          case rel =>
            refine ⟨k + 1, by omega, by omega, by go_num, xs ++ [t], by simp; omega, fun u hu => ?_, ?_⟩
            · rcases List.mem_append.1 hu with hu | hu
              · exact HXL.out u hu
              · rw [List.mem_singleton.1 hu]; exact hmem.out
            · have e : putAll [] (xs ++ [t]) = putK t 1 (putAll [] xs) := by unfold putAll; rw [List.foldl_append]; rfl
              rw [e]; exact HT'.out
          case measure => simp [intOf]; omega
        · have HT := hid hT
          have HXL := hid hxl
          clear hT hxl
          by_cases q1 : k < os.length
          · have d1 : decide (k < os.length) = true := decide_eq_true q1
            by_cases q2 : k < 60
            · have d2 : decide ((k : Int) < 60) = true := by simp; omega
              have q3 : l.length = 0 := by omega
              have d3 : decide (0 < l.length) = false := decide_eq_false (by omega)
              clear q1 q2 q3 hgo
              go_wp2_with fail
              go_loopw [9] (fun i wr => ∃ (k : Nat) (z : Int), k ≤ l.length ∧ i = .int .i64 z ∧ z = (k : Int) - 1 ∧ ∃ xs : List ByteArray, xs.length ≤ 60 + (l.length - k) ∧ (∀ t ∈ xs, t ∈ l) ∧ (∀ t ∈ l.drop k, t ∈ xs) ∧ Two w wr g1 g2 (putAll [] l) (putAll [] xs)) (fun i _ => (intOf i + 1).toNat)
              case atStart => exact ⟨l.length, (l.length : Int) - 1, Nat.le_refl _, by go_num, rfl, xs, by omega, HXL.out, (by rw [List.drop_of_length_le (Nat.le_refl _)]; intro t ht; cases ht), HT.out⟩
              case round =>
                obtain ⟨k, z, hk, rfl, hz, xs2, hxs2, hxl2, hxd2, hT⟩ := hrel
                clear HT HXL hxs
                cases k with
                | succ m =>
                  exfalso; have := of_decide_eq_false d3; omega
                | zero =>
                  have hz0 : decide ((0 : Int) ≤ z) = false := by simp; omega
                  clear hz
                  have HQ : Hid (∃ q : List PairI, q.length ≤ 30 ∧ Two w wr g1 g2 q q) := by
                    obtain ⟨a1, a2, a3, a4⟩ := putAll_facts [] l List.Pairwise.nil (fun p hp => by cases hp)
                    obtain ⟨b1, b2, b3, b4⟩ := putAll_facts [] xs2 List.Pairwise.nil (fun p hp => by cases hp)
                    have e : putAll [] l = putAll [] xs2 := srt_eq a1 b1 a2 b2 fun t => by
                      rw [a4, b4]
                      constructor
                      · rintro (h | h)
                        · exact .inl (hxd2 t (by simpa using h))
                        · exact .inr h
                      · rintro (h | h)
                        · exact .inl (hxl2 t h)
                        · exact .inr h
                    rw [← e] at hT
                    exact ⟨_, by rw [List.length_nil] at a3; omega, hT⟩
                  clear hT hxs2 hxl2 hxd2 hc ho hb
                  obtain ⟨q, hq30, hT⟩ := HQ.out
                  have HT := hid hT
                  clear HQ hT
                  go_wp2_with fail
                  go_loopw [10] (fun i wr => ∃ k : Nat, k ≤ q.length ∧ i = .int .i64 k ∧ Two w wr g1 g2 q q) (fun i _ => q.length - (intOf i).toNat)
                  case atStart => exact ⟨0, by omega, rfl, HT.out⟩
                  case round =>
                    obtain ⟨k, hk, rfl, hT⟩ := hrel
                    clear HT
                    have HT := hid hT
                    clear hT
                    have HL : Hid (∀ W g, (g = g1 ∨ g = g2) → Two w W g1 g2 q q → Calls Try.prog 14 #[.pointer (some ⟨g, 0, none⟩)] W (fun e w' => e = .returned (.int .i64 q.length) ∧ W = w')) := fun W g hg h => by
                      rcases hg with rfl | rfl
                      · exact h.len
                      · exact h.symm.len
                    by_cases hlt : k < q.length
                    · have HA : Hid (∀ W g, (g = g1 ∨ g = g2) → Two w W g1 g2 q q → Calls Try.prog 15 #[.pointer (some ⟨g, 0, none⟩), .int .i64 k] W (Ret (.tuple #[.string q[k].name, .int .i64 q[k].n, .bool true]) W)) := fun W g hg h => by
                        rcases hg with rfl | rfl
                        · exact h.at_ k hlt
                        · exact h.symm.at_ k hlt
                      generalize q[k].n = m at HA
                      generalize q[k].name = nm at HA
                      have hs : (nm.toList == nm.toList) = true := by simp
                      go_wp2_with (first
                        | (go_at_call 14; refine (HL.out _ _ ?_ HT.out).mono ?_; (· first | exact .inl rfl | exact .inr rfl); rintro e w' ⟨rfl, rfl⟩)
                        | (go_at_call 15; refine (HA.out _ _ ?_ HT2.out).mono ?_; (· first | exact .inl rfl | exact .inr rfl); rintro e w2 ⟨rfl, hy⟩; have HT3 := hid (HT2.out.ext hy); clear hy)
                        | (go_at_call 15; refine (HA.out _ _ ?_ HT.out).mono ?_; (· first | exact .inl rfl | exact .inr rfl); rintro e w1 ⟨rfl, hx⟩; have HT2 := hid (HT.out.ext hx); clear hx))
                      go_roundw
                      case rel => exact ⟨k + 1, by omega, by go_num, HT3.out⟩
                      case measure => simp [intOf]; omega
                    · obtain rfl : k = q.length := by omega
                      go_wp2_with (first
                        | (go_at_call 14; refine (HL.out _ _ ?_ HT4.out).mono ?_; (· first | exact .inl rfl | exact .inr rfl); rintro e w' ⟨rfl, rfl⟩)
                        | (go_at_call 14; refine (HL.out _ _ ?_ HT.out).mono ?_; (· first | exact .inl rfl | exact .inr rfl); rintro e w' ⟨rfl, rfl⟩)
                        | (go_at_call 12; refine (awake_c _).mono ?_; rintro e v2 ⟨rfl, z2⟩; have HT4 := hid (HT.out.ext z2); clear z2))
                      go_ret
                      exact ⟨rfl, HT4.out.later⟩
            · have d2 : decide ((k : Int) < 60) = false := by simp; omega
              clear q1 q2 hgo
              go_wp2_with fail
              go_loopw [9] (fun i wr => ∃ (k : Nat) (z : Int), k ≤ l.length ∧ i = .int .i64 z ∧ z = (k : Int) - 1 ∧ ∃ xs : List ByteArray, xs.length ≤ 60 + (l.length - k) ∧ (∀ t ∈ xs, t ∈ l) ∧ (∀ t ∈ l.drop k, t ∈ xs) ∧ Two w wr g1 g2 (putAll [] l) (putAll [] xs)) (fun i _ => (intOf i + 1).toNat)
              case atStart => exact ⟨l.length, (l.length : Int) - 1, Nat.le_refl _, by go_num, rfl, xs, by omega, HXL.out, (by rw [List.drop_of_length_le (Nat.le_refl _)]; intro t ht; cases ht), HT.out⟩
              case round =>
                obtain ⟨k, z, hk, rfl, hz, xs2, hxs2, hxl2, hxd2, hT⟩ := hrel
                clear HT HXL hxs
                cases k with
                | succ m =>
                  obtain rfl : z = (m : Int) := by omega
                  obtain ⟨b, o, hA, hbl, hcell⟩ := hc (by omega); cases hA
                  have c0 := hT.later.cell (hcell m (by omega))
                  have HP := hid (hT.symm.put (by obtain ⟨_, _, f3, _⟩ := putAll_facts [] xs2 List.Pairwise.nil (fun p hp => by cases hp); rw [List.length_nil] at f3; omega) l[m] 1)
                  have HXL := hid hxl2
                  have hd : l.drop m = l[m] :: l.drop (m + 1) := List.drop_eq_getElem_cons (by omega)
                  have hmem : l[m] ∈ l := List.getElem_mem (by omega)
                  have HD : Hid (∀ t ∈ l.drop m, t ∈ xs2 ++ [l[m]]) := fun t ht => by
                    rw [hd] at ht
                    rcases List.mem_cons.1 ht with rfl | ht
                    · exact List.mem_append_right _ (List.mem_singleton.2 rfl)
                    · exact List.mem_append_left _ (hxd2 t ht)
                  have HM := hid hmem
                  clear hcell hc ho hT hz hb hxl2 hxd2 hd hmem
                  generalize l[m] = t at c0 HP HM HD
                  go_wp2_with (go_at_call 13; refine (HP.out).mono ?_; rintro e' w' ⟨rfl, hT'⟩; have HT' := hid hT'.symm; clear hT')
                  go_roundw
                  case rel =>
                    refine ⟨m, (m : Int) - 1, by omega, by go_num, rfl, xs2 ++ [t], by simp; omega, fun u hu => ?_, HD.out, ?_⟩
                    · rcases List.mem_append.1 hu with hu | hu
                      · exact HXL.out u hu
                      · rw [List.mem_singleton.1 hu]; exact HM.out
                    · have e : putAll [] (xs2 ++ [t]) = putK t 1 (putAll [] xs2) := by unfold putAll; rw [List.foldl_append]; rfl
                      rw [e]; exact HT'.out
                  case measure => simp [intOf]
                | zero =>
                  have hz0 : decide ((0 : Int) ≤ z) = false := by simp; omega
                  clear hz
                  have HQ : Hid (∃ q : List PairI, q.length ≤ 30 ∧ Two w wr g1 g2 q q) := by
                    obtain ⟨a1, a2, a3, a4⟩ := putAll_facts [] l List.Pairwise.nil (fun p hp => by cases hp)
                    obtain ⟨b1, b2, b3, b4⟩ := putAll_facts [] xs2 List.Pairwise.nil (fun p hp => by cases hp)
                    have e : putAll [] l = putAll [] xs2 := srt_eq a1 b1 a2 b2 fun t => by
                      rw [a4, b4]
                      constructor
                      · rintro (h | h)
                        · exact .inl (hxd2 t (by simpa using h))
                        · exact .inr h
                      · rintro (h | h)
                        · exact .inl (hxl2 t h)
                        · exact .inr h
                    rw [← e] at hT
                    exact ⟨_, by rw [List.length_nil] at a3; omega, hT⟩
                  clear hT hxs2 hxl2 hxd2 hc ho hb
                  obtain ⟨q, hq30, hT⟩ := HQ.out
                  have HT := hid hT
                  clear HQ hT
                  go_wp2_with fail
                  go_loopw [10] (fun i wr => ∃ k : Nat, k ≤ q.length ∧ i = .int .i64 k ∧ Two w wr g1 g2 q q) (fun i _ => q.length - (intOf i).toNat)
                  case atStart => exact ⟨0, by omega, rfl, HT.out⟩
                  case round =>
                    obtain ⟨k, hk, rfl, hT⟩ := hrel
                    clear HT
                    have HT := hid hT
                    clear hT
                    have HL : Hid (∀ W g, (g = g1 ∨ g = g2) → Two w W g1 g2 q q → Calls Try.prog 14 #[.pointer (some ⟨g, 0, none⟩)] W (fun e w' => e = .returned (.int .i64 q.length) ∧ W = w')) := fun W g hg h => by
                      rcases hg with rfl | rfl
                      · exact h.len
                      · exact h.symm.len
                    by_cases hlt : k < q.length
                    · have HA : Hid (∀ W g, (g = g1 ∨ g = g2) → Two w W g1 g2 q q → Calls Try.prog 15 #[.pointer (some ⟨g, 0, none⟩), .int .i64 k] W (Ret (.tuple #[.string q[k].name, .int .i64 q[k].n, .bool true]) W)) := fun W g hg h => by
                        rcases hg with rfl | rfl
                        · exact h.at_ k hlt
                        · exact h.symm.at_ k hlt
                      generalize q[k].n = m at HA
                      generalize q[k].name = nm at HA
                      have hs : (nm.toList == nm.toList) = true := by simp
                      go_wp2_with (first
                        | (go_at_call 14; refine (HL.out _ _ ?_ HT.out).mono ?_; (· first | exact .inl rfl | exact .inr rfl); rintro e w' ⟨rfl, rfl⟩)
                        | (go_at_call 15; refine (HA.out _ _ ?_ HT2.out).mono ?_; (· first | exact .inl rfl | exact .inr rfl); rintro e w2 ⟨rfl, hy⟩; have HT3 := hid (HT2.out.ext hy); clear hy)
                        | (go_at_call 15; refine (HA.out _ _ ?_ HT.out).mono ?_; (· first | exact .inl rfl | exact .inr rfl); rintro e w1 ⟨rfl, hx⟩; have HT2 := hid (HT.out.ext hx); clear hx))
                      go_roundw
                      case rel => exact ⟨k + 1, by omega, by go_num, HT3.out⟩
                      case measure => simp [intOf]; omega
                    · obtain rfl : k = q.length := by omega
                      go_wp2_with (first
                        | (go_at_call 14; refine (HL.out _ _ ?_ HT4.out).mono ?_; (· first | exact .inl rfl | exact .inr rfl); rintro e w' ⟨rfl, rfl⟩)
                        | (go_at_call 14; refine (HL.out _ _ ?_ HT.out).mono ?_; (· first | exact .inl rfl | exact .inr rfl); rintro e w' ⟨rfl, rfl⟩)
                        | (go_at_call 12; refine (awake_c _).mono ?_; rintro e v2 ⟨rfl, z2⟩; have HT4 := hid (HT.out.ext z2); clear z2))
                      go_ret
                      exact ⟨rfl, HT4.out.later⟩
          · have d1 : decide (k < os.length) = false := decide_eq_false q1
            clear q1 hgo
            go_wp2_with fail
            go_loopw [9] (fun i wr => ∃ (k : Nat) (z : Int), k ≤ l.length ∧ i = .int .i64 z ∧ z = (k : Int) - 1 ∧ ∃ xs : List ByteArray, xs.length ≤ 60 + (l.length - k) ∧ (∀ t ∈ xs, t ∈ l) ∧ (∀ t ∈ l.drop k, t ∈ xs) ∧ Two w wr g1 g2 (putAll [] l) (putAll [] xs)) (fun i _ => (intOf i + 1).toNat)
            case atStart => exact ⟨l.length, (l.length : Int) - 1, Nat.le_refl _, by go_num, rfl, xs, by omega, HXL.out, (by rw [List.drop_of_length_le (Nat.le_refl _)]; intro t ht; cases ht), HT.out⟩
            case round =>
              obtain ⟨k, z, hk, rfl, hz, xs2, hxs2, hxl2, hxd2, hT⟩ := hrel
              clear HT HXL hxs
              cases k with
              | succ m =>
                obtain rfl : z = (m : Int) := by omega
                obtain ⟨b, o, hA, hbl, hcell⟩ := hc (by omega); cases hA
                have c0 := hT.later.cell (hcell m (by omega))
                have HP := hid (hT.symm.put (by obtain ⟨_, _, f3, _⟩ := putAll_facts [] xs2 List.Pairwise.nil (fun p hp => by cases hp); rw [List.length_nil] at f3; omega) l[m] 1)
                have HXL := hid hxl2
                have hd : l.drop m = l[m] :: l.drop (m + 1) := List.drop_eq_getElem_cons (by omega)
                have hmem : l[m] ∈ l := List.getElem_mem (by omega)
                have HD : Hid (∀ t ∈ l.drop m, t ∈ xs2 ++ [l[m]]) := fun t ht => by
                  rw [hd] at ht
                  rcases List.mem_cons.1 ht with rfl | ht
                  · exact List.mem_append_right _ (List.mem_singleton.2 rfl)
                  · exact List.mem_append_left _ (hxd2 t ht)
                have HM := hid hmem
                clear hcell hc ho hT hz hb hxl2 hxd2 hd hmem
                generalize l[m] = t at c0 HP HM HD
                go_wp2_with (go_at_call 13; refine (HP.out).mono ?_; rintro e' w' ⟨rfl, hT'⟩; have HT' := hid hT'.symm; clear hT')
                go_roundw
                case rel =>
                  refine ⟨m, (m : Int) - 1, by omega, by go_num, rfl, xs2 ++ [t], by simp; omega, fun u hu => ?_, HD.out, ?_⟩
                  · rcases List.mem_append.1 hu with hu | hu
                    · exact HXL.out u hu
                    · rw [List.mem_singleton.1 hu]; exact HM.out
                  · have e : putAll [] (xs2 ++ [t]) = putK t 1 (putAll [] xs2) := by unfold putAll; rw [List.foldl_append]; rfl
                    rw [e]; exact HT'.out
                case measure => simp [intOf]
              | zero =>
                have hz0 : decide ((0 : Int) ≤ z) = false := by simp; omega
                clear hz
                have HQ : Hid (∃ q : List PairI, q.length ≤ 30 ∧ Two w wr g1 g2 q q) := by
                  obtain ⟨a1, a2, a3, a4⟩ := putAll_facts [] l List.Pairwise.nil (fun p hp => by cases hp)
                  obtain ⟨b1, b2, b3, b4⟩ := putAll_facts [] xs2 List.Pairwise.nil (fun p hp => by cases hp)
                  have e : putAll [] l = putAll [] xs2 := srt_eq a1 b1 a2 b2 fun t => by
                    rw [a4, b4]
                    constructor
                    · rintro (h | h)
                      · exact .inl (hxd2 t (by simpa using h))
                      · exact .inr h
                    · rintro (h | h)
                      · exact .inl (hxl2 t h)
                      · exact .inr h
                  rw [← e] at hT
                  exact ⟨_, by rw [List.length_nil] at a3; omega, hT⟩
                clear hT hxs2 hxl2 hxd2 hc ho hb
                obtain ⟨q, hq30, hT⟩ := HQ.out
                have HT := hid hT
                clear HQ hT
                go_wp2_with fail
                go_loopw [10] (fun i wr => ∃ k : Nat, k ≤ q.length ∧ i = .int .i64 k ∧ Two w wr g1 g2 q q) (fun i _ => q.length - (intOf i).toNat)
                case atStart => exact ⟨0, by omega, rfl, HT.out⟩
                case round =>
                  obtain ⟨k, hk, rfl, hT⟩ := hrel
                  clear HT
                  have HT := hid hT
                  clear hT
                  have HL : Hid (∀ W g, (g = g1 ∨ g = g2) → Two w W g1 g2 q q → Calls Try.prog 14 #[.pointer (some ⟨g, 0, none⟩)] W (fun e w' => e = .returned (.int .i64 q.length) ∧ W = w')) := fun W g hg h => by
                    rcases hg with rfl | rfl
                    · exact h.len
                    · exact h.symm.len
                  by_cases hlt : k < q.length
                  · have HA : Hid (∀ W g, (g = g1 ∨ g = g2) → Two w W g1 g2 q q → Calls Try.prog 15 #[.pointer (some ⟨g, 0, none⟩), .int .i64 k] W (Ret (.tuple #[.string q[k].name, .int .i64 q[k].n, .bool true]) W)) := fun W g hg h => by
                      rcases hg with rfl | rfl
                      · exact h.at_ k hlt
                      · exact h.symm.at_ k hlt
                    generalize q[k].n = m at HA
                    generalize q[k].name = nm at HA
                    have hs : (nm.toList == nm.toList) = true := by simp
                    go_wp2_with (first
                      | (go_at_call 14; refine (HL.out _ _ ?_ HT.out).mono ?_; (· first | exact .inl rfl | exact .inr rfl); rintro e w' ⟨rfl, rfl⟩)
                      | (go_at_call 15; refine (HA.out _ _ ?_ HT2.out).mono ?_; (· first | exact .inl rfl | exact .inr rfl); rintro e w2 ⟨rfl, hy⟩; have HT3 := hid (HT2.out.ext hy); clear hy)
                      | (go_at_call 15; refine (HA.out _ _ ?_ HT.out).mono ?_; (· first | exact .inl rfl | exact .inr rfl); rintro e w1 ⟨rfl, hx⟩; have HT2 := hid (HT.out.ext hx); clear hx))
                    go_roundw
                    case rel => exact ⟨k + 1, by omega, by go_num, HT3.out⟩
                    case measure => simp [intOf]; omega
                  · obtain rfl : k = q.length := by omega
                    go_wp2_with (first
                      | (go_at_call 14; refine (HL.out _ _ ?_ HT4.out).mono ?_; (· first | exact .inl rfl | exact .inr rfl); rintro e w' ⟨rfl, rfl⟩)
                      | (go_at_call 14; refine (HL.out _ _ ?_ HT.out).mono ?_; (· first | exact .inl rfl | exact .inr rfl); rintro e w' ⟨rfl, rfl⟩)
                      | (go_at_call 12; refine (awake_c _).mono ?_; rintro e v2 ⟨rfl, z2⟩; have HT4 := hid (HT.out.ext z2); clear z2))
                    go_ret
                    exact ⟨rfl, HT4.out.later⟩
set_option maxRecDepth 100000 in
set_option maxHeartbeats 4000000 in
theorem iorder_walk_long (w : World) (b0 o0 N c : Nat) (l : List ByteArray) (B : Option Addr) (d : Nat) (os : List Int) (hN : 30 < N) (hL : l.length = 30) (hlc : N ≤ c) (hm : c ≤ maxLen)
    (hc : 0 < l.length → ∃ b o, (some ⟨b0, o0, none⟩ : Option Addr) = some ⟨b, o, none⟩ ∧ b < w.heap.size ∧ ∀ k (h : k < l.length), w.cell? ⟨b, o + k, none⟩ = some (.string l[k]))
    (hod : os.length ≤ d) (hdm : d ≤ maxLen) (ho : 0 < os.length → ∃ b o, B = some ⟨b, o, none⟩ ∧ b < w.heap.size ∧ ∀ k (h : k < os.length), w.cell? ⟨b, o + k, none⟩ = some (.int .u8 os[k])) (hb : ∀ z ∈ os, 0 ≤ z ∧ z ≤ 255) :
    Calls Try.prog 3 #[.slice (some ⟨b0, o0, none⟩) N c, .slice B os.length d] w (Ret (.bool true) w) := by
  have hl : l.length ≤ 30 := by omega
  have HN : Hid (∀ W : World, Calls Try.prog 11 #[.slice none 0 0] W (RetQ (NewIdx W.heap.size []) W)) := fun W => new_c [] _ W (by simp) (Sl.nil W 1)
  unfold maxLen at hm hdm
  go_enter Try.func3, Try.ntmps3
  go_wp2_with (first
    | (go_at_call 11; refine (HN.out _).mono ?_; rintro e w2 ⟨v2, rfl, hv2, hx2⟩; obtain ⟨g1, g2, rfl, rfl, ht⟩ := two_start HV1.out HX1.out hv2 hx2; have HT := hid ht; clear hv2 hx2 ht HV1 HX1)
    | (go_at_call 11; refine (HN.out _).mono ?_; rintro e w1 ⟨v1, rfl, hv1, hx1⟩; have HV1 := hid hv1; have HX1 := hid hx1; clear hv1 hx1))
  clear HN
  have hv : Value.slice (some ⟨b0, o0, none⟩) 30 c = Value.slice (some ⟨b0, o0, none⟩) l.length c := by rw [hL]
  rw [hv]
  clear hv hL hN
  go_loopw [7] (fun i wr => ∃ k : Nat, k ≤ l.length ∧ i = .int .i64 k ∧ Two w wr g1 g2 (putAll [] (l.take k)) []) (fun i _ => l.length - (intOf i).toNat)
  case atStart => exact ⟨0, by omega, rfl, HT.out⟩
  case round =>
    obtain ⟨k, hk, rfl, hT⟩ := hrel
    by_cases hlt : k < l.length
    · obtain ⟨b, o, hA, hbl, hcell⟩ := hc (by omega); cases hA
      have c0 := hT.later.cell (hcell k hlt)
      obtain ⟨f1, f2, f3, f4⟩ := putAll_facts [] (l.take k) List.Pairwise.nil (fun p hp => by cases hp)
      have HP := hid (hT.put (by rw [List.length_nil, List.length_take] at f3; omega) l[k] 1)
      have e := hid (putAll_take [] l k hlt)
      have HL := hid hT.later
      clear hcell hc hT f1 f2 f3 f4 ho
      generalize l[k] = t at c0 HP e
      by_cases h200 : 200 < t.size
      · have h2 : decide ((200 : Int) < (t.size : Int)) = true := by simp; omega
        go_wp2_with (go_at_call 12; refine (awake_c _).mono ?_; rintro e v2 ⟨rfl, z2⟩)
        go_ret
        exact ⟨rfl, HL.out.trans z2⟩
      · have h2 : decide ((200 : Int) < (t.size : Int)) = false := by simp; omega
        go_wp2_with (go_at_call 13; refine (HP.out).mono ?_; rintro e' w' ⟨rfl, hT'⟩; have HT' := hid hT'; clear hT')
        go_roundw
        case rel => exact ⟨k + 1, by omega, by go_num, by rw [e.out]; exact HT'.out⟩
        case measure => simp [intOf]; omega
    · obtain rfl : k = l.length := by omega
      rw [List.take_length] at hT
      have HT := hid hT
      clear hT
      go_wp2_with fail
      go_loopw [8] (fun i wr => ∃ k : Nat, k ≤ os.length ∧ k ≤ 60 ∧ i = .int .i64 k ∧ ∃ xs : List ByteArray, xs.length ≤ k ∧ (∀ t ∈ xs, t ∈ l) ∧ Two w wr g1 g2 (putAll [] l) (putAll [] xs)) (fun i _ => os.length - (intOf i).toNat)
      case atStart => exact ⟨0, by omega, by omega, rfl, [], Nat.le_refl _, (fun t ht => by cases ht), HT.out⟩
      case round =>
        obtain ⟨k, hk, hk60, rfl, xs, hxs, hxl, hT⟩ := hrel
        by_cases hgo : k < os.length ∧ k < 60 ∧ 0 < l.length
        · obtain ⟨hgo1, hgo2, hgo3⟩ := hgo
          obtain ⟨b, o, hA, hbl, hcell⟩ := hc hgo3; cases hA
          obtain ⟨b', o', rfl, hbl', hcell'⟩ := ho (by omega)
          obtain ⟨z, hz⟩ : ∃ z : Nat, os[k] = (z : Int) := ⟨os[k].toNat, by have := hb os[k] (List.getElem_mem hgo1); omega⟩
          have hz255 : z ≤ 255 := by have := hb os[k] (List.getElem_mem hgo1); omega
          have hj : z % l.length < l.length := Nat.mod_lt _ hgo3
          have c0 := hT.later.cell (hcell (z % l.length) hj)
          have c1 := hT.later.cell (hcell' k hgo1)
          rw [hz] at c1
          have hmem := hid (List.getElem_mem hj)
          have HP := hid (hT.symm.put (by obtain ⟨_, _, f3, _⟩ := putAll_facts [] xs List.Pairwise.nil (fun p hp => by cases hp); rw [List.length_nil] at f3; omega) l[z % l.length] 1)
          have HXL := hid hxl
          clear hcell hcell' hc ho hT hz hb hxl
          generalize l[z % l.length] = t at c0 HP hmem
          go_wp2_with (go_at_call 13; refine (HP.out).mono ?_; rintro e' w' ⟨rfl, hT'⟩; have HT' := hid hT'.symm; clear hT')
          go_roundw
          case rel =>
            refine ⟨k + 1, by omega, by omega, by go_num, xs ++ [t], by simp; omega, fun u hu => ?_, ?_⟩
            · rcases List.mem_append.1 hu with hu | hu
              · exact HXL.out u hu
              · rw [List.mem_singleton.1 hu]; exact hmem.out
            · have e : putAll [] (xs ++ [t]) = putK t 1 (putAll [] xs) := by unfold putAll; rw [List.foldl_append]; rfl
              rw [e]; exact HT'.out
          case measure => simp [intOf]; omega
        · have HT := hid hT
          have HXL := hid hxl
          clear hT hxl
          by_cases q1 : k < os.length
          · have d1 : decide (k < os.length) = true := decide_eq_true q1
            by_cases q2 : k < 60
            · have d2 : decide ((k : Int) < 60) = true := by simp; omega
              have q3 : l.length = 0 := by omega
              have d3 : decide (0 < l.length) = false := decide_eq_false (by omega)
              clear q1 q2 q3 hgo
              go_wp2_with fail
              go_loopw [9] (fun i wr => ∃ (k : Nat) (z : Int), k ≤ l.length ∧ i = .int .i64 z ∧ z = (k : Int) - 1 ∧ ∃ xs : List ByteArray, xs.length ≤ 60 + (l.length - k) ∧ (∀ t ∈ xs, t ∈ l) ∧ (∀ t ∈ l.drop k, t ∈ xs) ∧ Two w wr g1 g2 (putAll [] l) (putAll [] xs)) (fun i _ => (intOf i + 1).toNat)
              case atStart => exact ⟨l.length, (l.length : Int) - 1, Nat.le_refl _, by go_num, rfl, xs, by omega, HXL.out, (by rw [List.drop_of_length_le (Nat.le_refl _)]; intro t ht; cases ht), HT.out⟩
              case round =>
                obtain ⟨k, z, hk, rfl, hz, xs2, hxs2, hxl2, hxd2, hT⟩ := hrel
                clear HT HXL hxs
                cases k with
                | succ m =>
                  exfalso; have := of_decide_eq_false d3; omega
                | zero =>
                  have hz0 : decide ((0 : Int) ≤ z) = false := by simp; omega
                  clear hz
                  have HQ : Hid (∃ q : List PairI, q.length ≤ 30 ∧ Two w wr g1 g2 q q) := by
                    obtain ⟨a1, a2, a3, a4⟩ := putAll_facts [] l List.Pairwise.nil (fun p hp => by cases hp)
                    obtain ⟨b1, b2, b3, b4⟩ := putAll_facts [] xs2 List.Pairwise.nil (fun p hp => by cases hp)
                    have e : putAll [] l = putAll [] xs2 := srt_eq a1 b1 a2 b2 fun t => by
                      rw [a4, b4]
                      constructor
                      · rintro (h | h)
                        · exact .inl (hxd2 t (by simpa using h))
                        · exact .inr h
                      · rintro (h | h)
                        · exact .inl (hxl2 t h)
                        · exact .inr h
                    rw [← e] at hT
                    exact ⟨_, by rw [List.length_nil] at a3; omega, hT⟩
                  clear hT hxs2 hxl2 hxd2 hc ho hb
                  obtain ⟨q, hq30, hT⟩ := HQ.out
                  have HT := hid hT
                  clear HQ hT
                  go_wp2_with fail
                  go_loopw [10] (fun i wr => ∃ k : Nat, k ≤ q.length ∧ i = .int .i64 k ∧ Two w wr g1 g2 q q) (fun i _ => q.length - (intOf i).toNat)
                  case atStart => exact ⟨0, by omega, rfl, HT.out⟩
                  case round =>
                    obtain ⟨k, hk, rfl, hT⟩ := hrel
                    clear HT
                    have HT := hid hT
                    clear hT
                    have HL : Hid (∀ W g, (g = g1 ∨ g = g2) → Two w W g1 g2 q q → Calls Try.prog 14 #[.pointer (some ⟨g, 0, none⟩)] W (fun e w' => e = .returned (.int .i64 q.length) ∧ W = w')) := fun W g hg h => by
                      rcases hg with rfl | rfl
                      · exact h.len
                      · exact h.symm.len
                    by_cases hlt : k < q.length
                    · have HA : Hid (∀ W g, (g = g1 ∨ g = g2) → Two w W g1 g2 q q → Calls Try.prog 15 #[.pointer (some ⟨g, 0, none⟩), .int .i64 k] W (Ret (.tuple #[.string q[k].name, .int .i64 q[k].n, .bool true]) W)) := fun W g hg h => by
                        rcases hg with rfl | rfl
                        · exact h.at_ k hlt
                        · exact h.symm.at_ k hlt
                      generalize q[k].n = m at HA
                      generalize q[k].name = nm at HA
                      have hs : (nm.toList == nm.toList) = true := by simp
                      go_wp2_with (first
                        | (go_at_call 14; refine (HL.out _ _ ?_ HT.out).mono ?_; (· first | exact .inl rfl | exact .inr rfl); rintro e w' ⟨rfl, rfl⟩)
                        | (go_at_call 15; refine (HA.out _ _ ?_ HT2.out).mono ?_; (· first | exact .inl rfl | exact .inr rfl); rintro e w2 ⟨rfl, hy⟩; have HT3 := hid (HT2.out.ext hy); clear hy)
                        | (go_at_call 15; refine (HA.out _ _ ?_ HT.out).mono ?_; (· first | exact .inl rfl | exact .inr rfl); rintro e w1 ⟨rfl, hx⟩; have HT2 := hid (HT.out.ext hx); clear hx))
                      go_roundw
                      case rel => exact ⟨k + 1, by omega, by go_num, HT3.out⟩
                      case measure => simp [intOf]; omega
                    · obtain rfl : k = q.length := by omega
                      go_wp2_with (first
                        | (go_at_call 14; refine (HL.out _ _ ?_ HT4.out).mono ?_; (· first | exact .inl rfl | exact .inr rfl); rintro e w' ⟨rfl, rfl⟩)
                        | (go_at_call 14; refine (HL.out _ _ ?_ HT.out).mono ?_; (· first | exact .inl rfl | exact .inr rfl); rintro e w' ⟨rfl, rfl⟩)
                        | (go_at_call 12; refine (awake_c _).mono ?_; rintro e v2 ⟨rfl, z2⟩; have HT4 := hid (HT.out.ext z2); clear z2))
                      go_ret
                      exact ⟨rfl, HT4.out.later⟩
            · have d2 : decide ((k : Int) < 60) = false := by simp; omega
              clear q1 q2 hgo
              go_wp2_with fail
              go_loopw [9] (fun i wr => ∃ (k : Nat) (z : Int), k ≤ l.length ∧ i = .int .i64 z ∧ z = (k : Int) - 1 ∧ ∃ xs : List ByteArray, xs.length ≤ 60 + (l.length - k) ∧ (∀ t ∈ xs, t ∈ l) ∧ (∀ t ∈ l.drop k, t ∈ xs) ∧ Two w wr g1 g2 (putAll [] l) (putAll [] xs)) (fun i _ => (intOf i + 1).toNat)
              case atStart => exact ⟨l.length, (l.length : Int) - 1, Nat.le_refl _, by go_num, rfl, xs, by omega, HXL.out, (by rw [List.drop_of_length_le (Nat.le_refl _)]; intro t ht; cases ht), HT.out⟩
              case round =>
                obtain ⟨k, z, hk, rfl, hz, xs2, hxs2, hxl2, hxd2, hT⟩ := hrel
                clear HT HXL hxs
                cases k with
                | succ m =>
                  obtain rfl : z = (m : Int) := by omega
                  obtain ⟨b, o, hA, hbl, hcell⟩ := hc (by omega); cases hA
                  have c0 := hT.later.cell (hcell m (by omega))
                  have HP := hid (hT.symm.put (by obtain ⟨_, _, f3, _⟩ := putAll_facts [] xs2 List.Pairwise.nil (fun p hp => by cases hp); rw [List.length_nil] at f3; omega) l[m] 1)
                  have HXL := hid hxl2
                  have hd : l.drop m = l[m] :: l.drop (m + 1) := List.drop_eq_getElem_cons (by omega)
                  have hmem : l[m] ∈ l := List.getElem_mem (by omega)
                  have HD : Hid (∀ t ∈ l.drop m, t ∈ xs2 ++ [l[m]]) := fun t ht => by
                    rw [hd] at ht
                    rcases List.mem_cons.1 ht with rfl | ht
                    · exact List.mem_append_right _ (List.mem_singleton.2 rfl)
                    · exact List.mem_append_left _ (hxd2 t ht)
                  have HM := hid hmem
                  clear hcell hc ho hT hz hb hxl2 hxd2 hd hmem
                  generalize l[m] = t at c0 HP HM HD
                  go_wp2_with (go_at_call 13; refine (HP.out).mono ?_; rintro e' w' ⟨rfl, hT'⟩; have HT' := hid hT'.symm; clear hT')
                  go_roundw
                  case rel =>
                    refine ⟨m, (m : Int) - 1, by omega, by go_num, rfl, xs2 ++ [t], by simp; omega, fun u hu => ?_, HD.out, ?_⟩
                    · rcases List.mem_append.1 hu with hu | hu
                      · exact HXL.out u hu
                      · rw [List.mem_singleton.1 hu]; exact HM.out
                    · have e : putAll [] (xs2 ++ [t]) = putK t 1 (putAll [] xs2) := by unfold putAll; rw [List.foldl_append]; rfl
                      rw [e]; exact HT'.out
                  case measure => simp [intOf]
                | zero =>
                  have hz0 : decide ((0 : Int) ≤ z) = false := by simp; omega
                  clear hz
                  have HQ : Hid (∃ q : List PairI, q.length ≤ 30 ∧ Two w wr g1 g2 q q) := by
                    obtain ⟨a1, a2, a3, a4⟩ := putAll_facts [] l List.Pairwise.nil (fun p hp => by cases hp)
                    obtain ⟨b1, b2, b3, b4⟩ := putAll_facts [] xs2 List.Pairwise.nil (fun p hp => by cases hp)
                    have e : putAll [] l = putAll [] xs2 := srt_eq a1 b1 a2 b2 fun t => by
                      rw [a4, b4]
                      constructor
                      · rintro (h | h)
                        · exact .inl (hxd2 t (by simpa using h))
                        · exact .inr h
                      · rintro (h | h)
                        · exact .inl (hxl2 t h)
                        · exact .inr h
                    rw [← e] at hT
                    exact ⟨_, by rw [List.length_nil] at a3; omega, hT⟩
                  clear hT hxs2 hxl2 hxd2 hc ho hb
                  obtain ⟨q, hq30, hT⟩ := HQ.out
                  have HT := hid hT
                  clear HQ hT
                  go_wp2_with fail
                  go_loopw [10] (fun i wr => ∃ k : Nat, k ≤ q.length ∧ i = .int .i64 k ∧ Two w wr g1 g2 q q) (fun i _ => q.length - (intOf i).toNat)
                  case atStart => exact ⟨0, by omega, rfl, HT.out⟩
                  case round =>
                    obtain ⟨k, hk, rfl, hT⟩ := hrel
                    clear HT
                    have HT := hid hT
                    clear hT
                    have HL : Hid (∀ W g, (g = g1 ∨ g = g2) → Two w W g1 g2 q q → Calls Try.prog 14 #[.pointer (some ⟨g, 0, none⟩)] W (fun e w' => e = .returned (.int .i64 q.length) ∧ W = w')) := fun W g hg h => by
                      rcases hg with rfl | rfl
                      · exact h.len
                      · exact h.symm.len
                    by_cases hlt : k < q.length
                    · have HA : Hid (∀ W g, (g = g1 ∨ g = g2) → Two w W g1 g2 q q → Calls Try.prog 15 #[.pointer (some ⟨g, 0, none⟩), .int .i64 k] W (Ret (.tuple #[.string q[k].name, .int .i64 q[k].n, .bool true]) W)) := fun W g hg h => by
                        rcases hg with rfl | rfl
                        · exact h.at_ k hlt
                        · exact h.symm.at_ k hlt
                      generalize q[k].n = m at HA
                      generalize q[k].name = nm at HA
                      have hs : (nm.toList == nm.toList) = true := by simp
                      go_wp2_with (first
                        | (go_at_call 14; refine (HL.out _ _ ?_ HT.out).mono ?_; (· first | exact .inl rfl | exact .inr rfl); rintro e w' ⟨rfl, rfl⟩)
                        | (go_at_call 15; refine (HA.out _ _ ?_ HT2.out).mono ?_; (· first | exact .inl rfl | exact .inr rfl); rintro e w2 ⟨rfl, hy⟩; have HT3 := hid (HT2.out.ext hy); clear hy)
                        | (go_at_call 15; refine (HA.out _ _ ?_ HT.out).mono ?_; (· first | exact .inl rfl | exact .inr rfl); rintro e w1 ⟨rfl, hx⟩; have HT2 := hid (HT.out.ext hx); clear hx))
                      go_roundw
                      case rel => exact ⟨k + 1, by omega, by go_num, HT3.out⟩
                      case measure => simp [intOf]; omega
                    · obtain rfl : k = q.length := by omega
                      go_wp2_with (first
                        | (go_at_call 14; refine (HL.out _ _ ?_ HT4.out).mono ?_; (· first | exact .inl rfl | exact .inr rfl); rintro e w' ⟨rfl, rfl⟩)
                        | (go_at_call 14; refine (HL.out _ _ ?_ HT.out).mono ?_; (· first | exact .inl rfl | exact .inr rfl); rintro e w' ⟨rfl, rfl⟩)
                        | (go_at_call 12; refine (awake_c _).mono ?_; rintro e v2 ⟨rfl, z2⟩; have HT4 := hid (HT.out.ext z2); clear z2))
                      go_ret
                      exact ⟨rfl, HT4.out.later⟩
          · have d1 : decide (k < os.length) = false := decide_eq_false q1
            clear q1 hgo
            go_wp2_with fail
            go_loopw [9] (fun i wr => ∃ (k : Nat) (z : Int), k ≤ l.length ∧ i = .int .i64 z ∧ z = (k : Int) - 1 ∧ ∃ xs : List ByteArray, xs.length ≤ 60 + (l.length - k) ∧ (∀ t ∈ xs, t ∈ l) ∧ (∀ t ∈ l.drop k, t ∈ xs) ∧ Two w wr g1 g2 (putAll [] l) (putAll [] xs)) (fun i _ => (intOf i + 1).toNat)
            case atStart => exact ⟨l.length, (l.length : Int) - 1, Nat.le_refl _, by go_num, rfl, xs, by omega, HXL.out, (by rw [List.drop_of_length_le (Nat.le_refl _)]; intro t ht; cases ht), HT.out⟩
            case round =>
              obtain ⟨k, z, hk, rfl, hz, xs2, hxs2, hxl2, hxd2, hT⟩ := hrel
              clear HT HXL hxs
              cases k with
              | succ m =>
                obtain rfl : z = (m : Int) := by omega
                obtain ⟨b, o, hA, hbl, hcell⟩ := hc (by omega); cases hA
                have c0 := hT.later.cell (hcell m (by omega))
                have HP := hid (hT.symm.put (by obtain ⟨_, _, f3, _⟩ := putAll_facts [] xs2 List.Pairwise.nil (fun p hp => by cases hp); rw [List.length_nil] at f3; omega) l[m] 1)
                have HXL := hid hxl2
                have hd : l.drop m = l[m] :: l.drop (m + 1) := List.drop_eq_getElem_cons (by omega)
                have hmem : l[m] ∈ l := List.getElem_mem (by omega)
                have HD : Hid (∀ t ∈ l.drop m, t ∈ xs2 ++ [l[m]]) := fun t ht => by
                  rw [hd] at ht
                  rcases List.mem_cons.1 ht with rfl | ht
                  · exact List.mem_append_right _ (List.mem_singleton.2 rfl)
                  · exact List.mem_append_left _ (hxd2 t ht)
                have HM := hid hmem
                clear hcell hc ho hT hz hb hxl2 hxd2 hd hmem
                generalize l[m] = t at c0 HP HM HD
                go_wp2_with (go_at_call 13; refine (HP.out).mono ?_; rintro e' w' ⟨rfl, hT'⟩; have HT' := hid hT'.symm; clear hT')
                go_roundw
                case rel =>
                  refine ⟨m, (m : Int) - 1, by omega, by go_num, rfl, xs2 ++ [t], by simp; omega, fun u hu => ?_, HD.out, ?_⟩
                  · rcases List.mem_append.1 hu with hu | hu
                    · exact HXL.out u hu
                    · rw [List.mem_singleton.1 hu]; exact HM.out
                  · have e : putAll [] (xs2 ++ [t]) = putK t 1 (putAll [] xs2) := by unfold putAll; rw [List.foldl_append]; rfl
                    rw [e]; exact HT'.out
                case measure => simp [intOf]
              | zero =>
                have hz0 : decide ((0 : Int) ≤ z) = false := by simp; omega
                clear hz
                have HQ : Hid (∃ q : List PairI, q.length ≤ 30 ∧ Two w wr g1 g2 q q) := by
                  obtain ⟨a1, a2, a3, a4⟩ := putAll_facts [] l List.Pairwise.nil (fun p hp => by cases hp)
                  obtain ⟨b1, b2, b3, b4⟩ := putAll_facts [] xs2 List.Pairwise.nil (fun p hp => by cases hp)
                  have e : putAll [] l = putAll [] xs2 := srt_eq a1 b1 a2 b2 fun t => by
                    rw [a4, b4]
                    constructor
                    · rintro (h | h)
                      · exact .inl (hxd2 t (by simpa using h))
                      · exact .inr h
                    · rintro (h | h)
                      · exact .inl (hxl2 t h)
                      · exact .inr h
                  rw [← e] at hT
                  exact ⟨_, by rw [List.length_nil] at a3; omega, hT⟩
                clear hT hxs2 hxl2 hxd2 hc ho hb
                obtain ⟨q, hq30, hT⟩ := HQ.out
                have HT := hid hT
                clear HQ hT
                go_wp2_with fail
                go_loopw [10] (fun i wr => ∃ k : Nat, k ≤ q.length ∧ i = .int .i64 k ∧ Two w wr g1 g2 q q) (fun i _ => q.length - (intOf i).toNat)
                case atStart => exact ⟨0, by omega, rfl, HT.out⟩
                case round =>
                  obtain ⟨k, hk, rfl, hT⟩ := hrel
                  clear HT
                  have HT := hid hT
                  clear hT
                  have HL : Hid (∀ W g, (g = g1 ∨ g = g2) → Two w W g1 g2 q q → Calls Try.prog 14 #[.pointer (some ⟨g, 0, none⟩)] W (fun e w' => e = .returned (.int .i64 q.length) ∧ W = w')) := fun W g hg h => by
                    rcases hg with rfl | rfl
                    · exact h.len
                    · exact h.symm.len
                  by_cases hlt : k < q.length
                  · have HA : Hid (∀ W g, (g = g1 ∨ g = g2) → Two w W g1 g2 q q → Calls Try.prog 15 #[.pointer (some ⟨g, 0, none⟩), .int .i64 k] W (Ret (.tuple #[.string q[k].name, .int .i64 q[k].n, .bool true]) W)) := fun W g hg h => by
                      rcases hg with rfl | rfl
                      · exact h.at_ k hlt
                      · exact h.symm.at_ k hlt
                    generalize q[k].n = m at HA
                    generalize q[k].name = nm at HA
                    have hs : (nm.toList == nm.toList) = true := by simp
                    go_wp2_with (first
                      | (go_at_call 14; refine (HL.out _ _ ?_ HT.out).mono ?_; (· first | exact .inl rfl | exact .inr rfl); rintro e w' ⟨rfl, rfl⟩)
                      | (go_at_call 15; refine (HA.out _ _ ?_ HT2.out).mono ?_; (· first | exact .inl rfl | exact .inr rfl); rintro e w2 ⟨rfl, hy⟩; have HT3 := hid (HT2.out.ext hy); clear hy)
                      | (go_at_call 15; refine (HA.out _ _ ?_ HT.out).mono ?_; (· first | exact .inl rfl | exact .inr rfl); rintro e w1 ⟨rfl, hx⟩; have HT2 := hid (HT.out.ext hx); clear hx))
                    go_roundw
                    case rel => exact ⟨k + 1, by omega, by go_num, HT3.out⟩
                    case measure => simp [intOf]; omega
                  · obtain rfl : k = q.length := by omega
                    go_wp2_with (first
                      | (go_at_call 14; refine (HL.out _ _ ?_ HT4.out).mono ?_; (· first | exact .inl rfl | exact .inr rfl); rintro e w' ⟨rfl, rfl⟩)
                      | (go_at_call 14; refine (HL.out _ _ ?_ HT.out).mono ?_; (· first | exact .inl rfl | exact .inr rfl); rintro e w' ⟨rfl, rfl⟩)
                      | (go_at_call 12; refine (awake_c _).mono ?_; rintro e v2 ⟨rfl, z2⟩; have HT4 := hid (HT.out.ext z2); clear z2))
                    go_ret
                    exact ⟨rfl, HT4.out.later⟩
end Go.Proofs.Ytfoafookodldfaa
