/-
  lighteragelaw07.PathJoins: its walk.
-/
import Derived.Test.YtfoafookodldfaaDoorPaN
namespace Go.Proofs.YtfoafookodldfaaDoor
set_option linter.unusedSimpArgs false
set_option linter.unusedVariables false
open Go.RowKit

theorem join_snoc (a : List (List UInt8)) (x : List UInt8) (h : a ≠ []) : Lib.join (a ++ [x]) [47] = Lib.join a [47] ++ [47] ++ x := by
  cases a with
  | nil => exact absurd rfl h
  | cons y r =>
    rw [List.cons_append, Lib.join_cons, Lib.join_cons]
    simp [Lib.joinTail]
theorem mk_append (a b : List UInt8) : mk (a ++ b) = mk a ++ mk b := toList_inj (by
  rw [mk_toList, Lib.toList_data, ByteArray.data_append, Array.toList_append]
  rfl)
theorem joinS_snoc (l : List ByteArray) (x : ByteArray) (h : l ≠ []) : joinS (l ++ [x]) = joinS l ++ ⟨#[47]⟩ ++ x := by
  unfold joinS
  rw [List.map_append, List.map_cons, List.map_nil, join_snoc _ _ (by simpa using h), mk_append, mk_append, mk_of]
  rfl
theorem joinS_nil : joinS [] = ⟨#[]⟩ := rfl
theorem joinS_one (x : ByteArray) : joinS [x] = x := by
  unfold joinS
  rw [List.map_cons, List.map_nil, Lib.join_one, mk_of]
theorem empty_append (x : ByteArray) : (⟨#[]⟩ : ByteArray) ++ x = x := toList_inj (by
  rw [Lib.toList_data, Lib.toList_data, ByteArray.data_append, Array.toList_append]
  rfl)
theorem joinS_step0 (l : List ByteArray) (k : Nat) (h : k < l.length) (h0 : k = 0) : joinS (l.take (k + 1)) = joinS (l.take k) ++ l[k] := by
  subst h0
  rw [List.take_succ_eq_append_getElem h, List.take_zero, List.nil_append, joinS_one, joinS_nil, empty_append]
theorem joinS_step1 (l : List ByteArray) (k : Nat) (h : k < l.length) (h0 : ¬ k = 0) : joinS (l.take (k + 1)) = joinS (l.take k) ++ ⟨#[47]⟩ ++ l[k] := by
  rw [List.take_succ_eq_append_getElem h, joinS_snoc]
  intro he
  have := congrArg List.length he
  rw [List.length_take, List.length_nil] at this
  omega
theorem name_noslash {s : ByteArray} (h : nameK s = true) : ∀ b ∈ s.toList, b ≠ 47 := by
  intro b hb h47
  unfold nameK at h
  simp only [Bool.and_eq_true] at h
  have := List.all_eq_true.1 h.1.2 b hb
  rw [h47] at this
  exact absurd this (by decide)
theorem right_empty : rightK ⟨#[]⟩ = false := by
  have e : spB ⟨#[]⟩ = [⟨#[]⟩] := by
    unfold spB
    rw [nil_toList]
    rfl
  unfold rightK
  rw [e]
  have : nameK ⟨#[]⟩ = false := by
    unfold nameK
    rw [nil_toList]; rfl
  simp [this]
theorem okJ_eq (l : List ByteArray) : okJ l = (decide (0 < l.length) && l.all nameK && rightK (joinS l)) := by
  unfold okJ
  cases hl : l.length with
  | zero =>
    have : l = [] := List.eq_nil_of_length_eq_zero hl
    subst this
    rw [joinS_nil, right_empty]; simp
  | succ n =>
    cases ha : l.all nameK with
    | false => simp
    | true =>
      have e : spB (joinS l) = l := spB_joinS (fun h => by rw [h] at hl; simp at hl) (fun x hx => name_noslash (List.all_eq_true.1 ha x hx))
      cases hr : rightK (joinS l) with
      | false => simp
      | true =>
        unfold rightK at hr
        rw [e] at hr
        simp only [Bool.and_eq_true, decide_eq_true_eq] at hr
        have := hr.2
        simp; omega
theorem all_step (l : List ByteArray) (k : Nat) (h : k < l.length) : (l.take (k + 1)).all nameK = ((l.take k).all nameK && nameK l[k]) := by
  rw [List.take_succ_eq_append_getElem h, List.all_append]; simp

set_option maxRecDepth 100000 in
set_option maxHeartbeats 1000000 in
theorem joins_walk (w : World) (m : Int) (hm : w.cell? ⟨0, 0, none⟩ = some (.int .i64 m)) (v : Value) (l : List ByteArray) (hv : Sl w 1 v (Strs l)) : Calls Tryd.prog 6 #[v] w (Ret (.bool true) w) := by
  have HA : Hid (∀ W, Ext w W → Calls Tryd.prog 7 #[] W (Ret (.bool true) W)) := fun W he => awake_c W m (he.cell hm)
  obtain ⟨A, c, rfl, h1, h2, h3⟩ := sl_str hv
  have facts : ∀ (L : List ByteArray) (C : Nat), L.length ≤ 20 → 0 < L.length → Sl w 1 (.slice A L.length c) (Strs L) →
      Hid ((∀ x ∈ L, x.size ≤ 100) → Calls Tryd.prog 15 #[.slice A L.length c] w (Ret (.tuple #[.string (joinText L), .int .i64 (joinNo L)]) w)) ∧
      Hid ((∀ x ∈ L, x.size ≤ 100) → ∀ W, Calls Tryd.prog 14 #[.string (joinS L)] W (Ret (.bool (rightK (joinS L))) W)) ∧
      Hid (L.all nameK = false ∨ rightK (joinS L) = false → joinText L = ⟨#[]⟩ ∧ joinNo L = 13) ∧
      Hid (L.all nameK = true → rightK (joinS L) = true → joinText L = joinS L ∧ joinNo L = 0) := by
    intro L C hL h0 hsl
    have d0 : decide (0 < L.length) = true := decide_eq_true h0
    refine ⟨fun hs => join_c w _ L m hm hsl fun x hx => by have := hs x hx; omega, fun hs W => right_c _ W ?_, fun h => ?_, fun h1 h2 => ?_⟩
    · have h1 := joinS_size 100 L hs
      have h3 := Nat.mul_le_mul_left 101 hL
      omega
    · unfold joinText joinNo
      rw [okJ_eq, d0]
      rcases h with h | h
      · rw [h]; exact ⟨rfl, rfl⟩
      · rw [h, Bool.and_false]; exact ⟨rfl, rfl⟩
    · unfold joinText joinNo
      rw [okJ_eq, d0, h1, h2]; exact ⟨rfl, rfl⟩
  by_cases h20 : l.length ≤ 20
  · have d20 : decide ((20 : Int) < (l.length : Int)) = false := by simp; omega
    by_cases h0 : l.length = 0
    · have hl : l = [] := List.eq_nil_of_length_eq_zero h0
      subst hl
      have HJn : Hid (Calls Tryd.prog 15 #[.slice A 0 c] w (Ret (.tuple #[.string ⟨#[]⟩, .int .i64 13]) w)) := by
        have e : okJ [] = false := by rw [okJ_eq]; rfl
        have := join_c w _ [] m hm hv (by simp)
        unfold joinText joinNo at this
        rw [e] at this
        exact this
      clear facts hm hv h3
      simp only [List.length_nil] at *
      go_enter Tryd.func6, Tryd.ntmps6
      go_wp2_with fail
      go_loopw [3, 4, 5] (fun s r i wr => i = .int .i64 0 ∧ s = .string ⟨#[]⟩ ∧ r = .bool false ∧ wr = w) (fun _ _ i _ => 0)
      case atStart => exact ⟨rfl, rfl, rfl, rfl⟩
      case round =>
        obtain ⟨rfl, rfl, rfl, rfl⟩ := hrel
        have HR : Hid (∀ W : World, True) := fun _ => trivial
        go_wp2_with (first
          | (go_at_call 15; refine (HJn.out).mono ?_; rintro e w1 ⟨rfl, hx⟩; have HX := hid hx; clear hx)
          | (go_at_call 14; refine (HR.out _).mono ?_; rintro e w2 ⟨rfl, hx⟩; have HX := hid (HX.out.trans hx); clear hx)
          | (go_at_call 7; refine (HA.out _ HX.out).mono ?_; rintro e w3 ⟨rfl, hx⟩; have HX := hid (HX.out.trans hx); clear hx))
        go_ret
        exact ⟨rfl, HX.out⟩
    · have d0 : decide (0 < l.length) = true := by simp; omega
      have d0' : decide ((0 : Int) < (l.length : Int)) = true := by simp; omega
      obtain ⟨HJn, HR, HF, HG⟩ := facts l c h20 (by omega) hv
      unfold maxLen at h2
      clear facts hm hv h0
      revert HJn HR HF HG
      generalize joinText l = T
      generalize joinNo l = N
      intro HJn HR HF HG
      obtain ⟨L, rfl⟩ : ∃ L, L = l := ⟨l, rfl⟩
      go_enter Tryd.func6, Tryd.ntmps6
      go_wp2_with fail
      go_loopw [3, 4, 5] (fun s r i wr => ∃ k : Nat, k ≤ L.length ∧ i = .int .i64 k ∧ s = .string (joinS (L.take k)) ∧ r = .bool ((L.take k).all nameK) ∧ wr = w ∧ ∀ x ∈ L.take k, x.size ≤ 100) (fun _ _ i _ => L.length - (intOf i).toNat)
      case atStart => exact ⟨0, by omega, rfl, rfl, rfl, rfl, by simp⟩
      case round =>
        obtain ⟨k, hk, rfl, rfl, rfl, rfl, hsm⟩ := hrel
        by_cases hlt : k < L.length
        · obtain ⟨b, o, rfl, lb0, hc⟩ := h3 (by omega)
          have c0 := hc k hlt
          have HJ0 := hid (joinS_step0 L k hlt)
          have HJ1 := hid (joinS_step1 L k hlt)
          have HS := hid (all_step L k hlt)
          have hjz : (joinS (L.take k)).size ≤ 2020 := by
            have h1 := joinS_size 100 (L.take k) hsm
            have h2 : (L.take k).length ≤ 20 := by rw [List.length_take]; omega
            have h3 := Nat.mul_le_mul_left 101 h2
            omega
          have HM1 : Hid (L[k].size ≤ 100 → ∀ x ∈ L.take (k + 1), x.size ≤ 100) := fun h x hx => by
            rw [List.take_succ_eq_append_getElem hlt, List.mem_append] at hx
            rcases hx with hx | hx
            · exact hsm x hx
            · have : x = L[k] := by simpa using hx
              rw [this]; exact h
          clear h3 hc HF HG HJn HR hsm
          generalize joinS (L.take k) = W at *
          generalize (L.take k).all nameK = al at *
          generalize L[k] = t at *
          by_cases ht : 100 < t.size
          · have dt : decide ((100 : Int) < (t.size : Int)) = true := by simp; omega
            clear ht
            go_wp2_with (go_at_call 7; refine (HA.out _ (Ext.refl _)).mono ?_; rintro e w3 ⟨rfl, hx⟩)
            go_ret
            exact ⟨rfl, hx⟩
          · have dt : decide ((100 : Int) < (t.size : Int)) = false := by simp; omega
            have ht' : t.size ≤ 100 := by omega
            have HM := hid (HM1.out ht')
            by_cases hk0 : k = 0
            · have HJ := hid (HJ0.out hk0)
              have dk : decide ((0 : Int) < (k : Int)) = false := by simp; omega
              have dk2 : decide (0 < k) = false := by simp; omega
              clear HJ0 HJ1 hk0 ht HM1
              cases al with
              | false =>
                go_wp2_with (first
                  | (go_at_call 18; refine (rname_c _ _ ?_).mono ?_; (· omega); rintro e w' ⟨rfl, rfl⟩))
                go_roundw
                case rel => exact ⟨k + 1, by omega, by go_num, by rw [HJ.out], by rw [HS.out]; simp, trivial, HM.out⟩
                case measure => simp [intOf]; omega
              | true =>
                go_wp2_with (first
                  | (go_at_call 18; refine (rname_c _ _ ?_).mono ?_; (· omega); rintro e w' ⟨rfl, rfl⟩))
                go_roundw
                case rel => exact ⟨k + 1, by omega, by go_num, by rw [HJ.out], by rw [HS.out]; simp, trivial, HM.out⟩
                case measure => simp [intOf]; omega
            · have HJ := hid (HJ1.out hk0)
              have dk : decide ((0 : Int) < (k : Int)) = true := by simp; omega
              have dk2 : decide (0 < k) = true := by simp; omega
              clear HJ0 HJ1 hk0 ht HM1
              cases al with
              | false =>
                go_wp2_with (first
                  | (go_at_call 18; refine (rname_c _ _ ?_).mono ?_; (· omega); rintro e w' ⟨rfl, rfl⟩))
                go_roundw
                case rel => exact ⟨k + 1, by omega, by go_num, by rw [HJ.out], by rw [HS.out]; simp, trivial, HM.out⟩
                case measure => simp [intOf]; omega
              | true =>
                go_wp2_with (first
                  | (go_at_call 18; refine (rname_c _ _ ?_).mono ?_; (· omega); rintro e w' ⟨rfl, rfl⟩))
                go_roundw
                case rel => exact ⟨k + 1, by omega, by go_num, by rw [HJ.out], by rw [HS.out]; simp, trivial, HM.out⟩
                case measure => simp [intOf]; omega
        · obtain rfl : k = L.length := by omega
          rw [List.take_length] at hsm ⊢
          have HJn := hid (HJn.out hsm)
          have HR := hid (HR.out hsm)
          clear h3 hsm
          generalize joinS L = W at *
          generalize L.all nameK = al at *
          cases al with
          | false =>
            obtain ⟨z1, z2⟩ := HF.out (.inl rfl)
            rw [z1, z2] at HJn
            clear HF HG z1 z2
            go_wp2_with (first
              | (go_at_call 15; refine (HJn.out).mono ?_; rintro e w1 ⟨rfl, hx⟩; have HX := hid hx; clear hx)
              | (go_at_call 14; refine (HR.out _).mono ?_; rintro e w2 ⟨rfl, hx⟩; have HX := hid (HX.out.trans hx); clear hx)
              | (go_at_call 7; refine (HA.out _ HX.out).mono ?_; rintro e w3 ⟨rfl, hx⟩; have HX := hid (HX.out.trans hx); clear hx))
            go_ret
            exact ⟨rfl, HX.out⟩
          | true =>
            cases hr : rightK W with
            | false =>
              obtain ⟨z1, z2⟩ := HF.out (.inr hr)
              rw [z1, z2] at HJn
              rw [hr] at HR
              clear HF HG z1 z2 hr
              go_wp2_with (first
                | (go_at_call 15; refine (HJn.out).mono ?_; rintro e w1 ⟨rfl, hx⟩; have HX := hid hx; clear hx)
                | (go_at_call 14; refine (HR.out _).mono ?_; rintro e w2 ⟨rfl, hx⟩; have HX := hid (HX.out.trans hx); clear hx)
                | (go_at_call 7; refine (HA.out _ HX.out).mono ?_; rintro e w3 ⟨rfl, hx⟩; have HX := hid (HX.out.trans hx); clear hx))
              go_ret
              exact ⟨rfl, HX.out⟩
            | true =>
              obtain ⟨z1, z2⟩ := HG.out rfl hr
              rw [z1, z2] at HJn
              rw [hr] at HR
              have heq : (W.toList == W.toList) = true := by simp
              clear HF HG z1 z2 hr
              go_wp2_with (first
                | (go_at_call 15; refine (HJn.out).mono ?_; rintro e w1 ⟨rfl, hx⟩; have HX := hid hx; clear hx)
                | (go_at_call 14; refine (HR.out _).mono ?_; rintro e w2 ⟨rfl, hx⟩; have HX := hid (HX.out.trans hx); clear hx)
                | (go_at_call 7; refine (HA.out _ HX.out).mono ?_; rintro e w3 ⟨rfl, hx⟩; have HX := hid (HX.out.trans hx); clear hx))
              go_ret
              exact ⟨rfl, HX.out⟩
  · have d20 : decide ((20 : Int) < (l.length : Int)) = true := by simp; omega
    obtain ⟨b0, o0, rfl, lb00, hcell⟩ := h3 (by omega)
    have hsl := sl_take (m := 20) hv (by omega)
    have hst : (Strs l).take 20 = Strs (l.take 20) := by unfold Strs; rw [List.map_take]
    rw [hst] at hsl
    have hL : (l.take 20).length = 20 := by rw [List.length_take]; omega
    have hv2 : Value.slice (some ⟨b0, o0, none⟩) 20 c = Value.slice (some ⟨b0, o0, none⟩) (l.take 20).length c := by rw [hL]
    rw [hv2] at hsl
    obtain ⟨HJn, HR, HF, HG⟩ := facts (l.take 20) c (by omega) (by omega) hsl
    obtain ⟨A', c', e', q1, q2, h3'⟩ := sl_str hsl
    injection e' with e1 e2 e3
    subst e1
    subst e3
    have h20c : 20 ≤ c := by omega
    unfold maxLen at h2
    clear facts hm hv hcell hst h3 hsl q1 q2
    generalize l.take 20 = L at *
    have h3 : 0 < L.length → ∃ b o, (b0 = b ∧ o0 = o) ∧ b < w.heap.size ∧ ∀ k (h : k < L.length), w.cell? ⟨b, o + k, none⟩ = some (.string L[k]) := fun hn => by
      obtain ⟨b, o, e, r⟩ := h3' hn
      injection e with e
      injection e with e1 e2 e3
      exact ⟨b, o, ⟨e1, e2⟩, r⟩
    clear h3'
    have hL20 : L.length ≤ 20 := by omega
    have hp20 : 0 < L.length := by omega
    clear hL
    revert HJn HR HF HG
    generalize joinText L = T
    generalize joinNo L = N
    intro HJn HR HF HG
    have d1 : decide ((0 : Int) < 20) = true := by decide
    go_enter Tryd.func6, Tryd.ntmps6
    go_wp2_with fail
    try rw [hv2]
    clear hv2
    go_loopw [3, 4, 5] (fun s r i wr => ∃ k : Nat, k ≤ L.length ∧ i = .int .i64 k ∧ s = .string (joinS (L.take k)) ∧ r = .bool ((L.take k).all nameK) ∧ wr = w ∧ ∀ x ∈ L.take k, x.size ≤ 100) (fun _ _ i _ => L.length - (intOf i).toNat)
    case atStart => exact ⟨0, by omega, rfl, rfl, rfl, rfl, by simp⟩
    case round =>
      obtain ⟨k, hk, rfl, rfl, rfl, rfl, hsm⟩ := hrel
      by_cases hlt : k < L.length
      · obtain ⟨b, o, ⟨rfl,rfl⟩, lb0, hc⟩ := h3 (by omega)
        have c0 := hc k hlt
        have HJ0 := hid (joinS_step0 L k hlt)
        have HJ1 := hid (joinS_step1 L k hlt)
        have HS := hid (all_step L k hlt)
        have hjz : (joinS (L.take k)).size ≤ 2020 := by
          have h1 := joinS_size 100 (L.take k) hsm
          have h2 : (L.take k).length ≤ 20 := by rw [List.length_take]; omega
          have h3 := Nat.mul_le_mul_left 101 h2
          omega
        have HM1 : Hid (L[k].size ≤ 100 → ∀ x ∈ L.take (k + 1), x.size ≤ 100) := fun h x hx => by
          rw [List.take_succ_eq_append_getElem hlt, List.mem_append] at hx
          rcases hx with hx | hx
          · exact hsm x hx
          · have : x = L[k] := by simpa using hx
            rw [this]; exact h
        clear h3 hc HF HG HJn HR hsm
        generalize joinS (L.take k) = W at *
        generalize (L.take k).all nameK = al at *
        generalize L[k] = t at *
        by_cases ht : 100 < t.size
        · have dt : decide ((100 : Int) < (t.size : Int)) = true := by simp; omega
          clear ht
          go_wp2_with (go_at_call 7; refine (HA.out _ (Ext.refl _)).mono ?_; rintro e w3 ⟨rfl, hx⟩)
          go_ret
          exact ⟨rfl, hx⟩
        · have dt : decide ((100 : Int) < (t.size : Int)) = false := by simp; omega
          have ht' : t.size ≤ 100 := by omega
          have HM := hid (HM1.out ht')
          by_cases hk0 : k = 0
          · have HJ := hid (HJ0.out hk0)
            have dk : decide ((0 : Int) < (k : Int)) = false := by simp; omega
            have dk2 : decide (0 < k) = false := by simp; omega
            clear HJ0 HJ1 hk0 ht HM1
            cases al with
            | false =>
              go_wp2_with (first
                | (go_at_call 18; refine (rname_c _ _ ?_).mono ?_; (· omega); rintro e w' ⟨rfl, rfl⟩))
              go_roundw
              case rel => exact ⟨k + 1, by omega, by go_num, by rw [HJ.out], by rw [HS.out]; simp, trivial, HM.out⟩
              case measure => simp [intOf]; omega
            | true =>
              go_wp2_with (first
                | (go_at_call 18; refine (rname_c _ _ ?_).mono ?_; (· omega); rintro e w' ⟨rfl, rfl⟩))
              go_roundw
              case rel => exact ⟨k + 1, by omega, by go_num, by rw [HJ.out], by rw [HS.out]; simp, trivial, HM.out⟩
              case measure => simp [intOf]; omega
          · have HJ := hid (HJ1.out hk0)
            have dk : decide ((0 : Int) < (k : Int)) = true := by simp; omega
            have dk2 : decide (0 < k) = true := by simp; omega
            clear HJ0 HJ1 hk0 ht HM1
            cases al with
            | false =>
              go_wp2_with (first
                | (go_at_call 18; refine (rname_c _ _ ?_).mono ?_; (· omega); rintro e w' ⟨rfl, rfl⟩))
              go_roundw
              case rel => exact ⟨k + 1, by omega, by go_num, by rw [HJ.out], by rw [HS.out]; simp, trivial, HM.out⟩
              case measure => simp [intOf]; omega
            | true =>
              go_wp2_with (first
                | (go_at_call 18; refine (rname_c _ _ ?_).mono ?_; (· omega); rintro e w' ⟨rfl, rfl⟩))
              go_roundw
              case rel => exact ⟨k + 1, by omega, by go_num, by rw [HJ.out], by rw [HS.out]; simp, trivial, HM.out⟩
              case measure => simp [intOf]; omega
      · obtain rfl : k = L.length := by omega
        rw [List.take_length] at hsm ⊢
        have HJn := hid (HJn.out hsm)
        have HR := hid (HR.out hsm)
        clear h3 hsm
        generalize joinS L = W at *
        generalize L.all nameK = al at *
        cases al with
        | false =>
          obtain ⟨z1, z2⟩ := HF.out (.inl rfl)
          rw [z1, z2] at HJn
          clear HF HG z1 z2
          go_wp2_with (first
            | (go_at_call 15; refine (HJn.out).mono ?_; rintro e w1 ⟨rfl, hx⟩; have HX := hid hx; clear hx)
            | (go_at_call 14; refine (HR.out _).mono ?_; rintro e w2 ⟨rfl, hx⟩; have HX := hid (HX.out.trans hx); clear hx)
            | (go_at_call 7; refine (HA.out _ HX.out).mono ?_; rintro e w3 ⟨rfl, hx⟩; have HX := hid (HX.out.trans hx); clear hx))
          go_ret
          exact ⟨rfl, HX.out⟩
        | true =>
          cases hr : rightK W with
          | false =>
            obtain ⟨z1, z2⟩ := HF.out (.inr hr)
            rw [z1, z2] at HJn
            rw [hr] at HR
            clear HF HG z1 z2 hr
            go_wp2_with (first
              | (go_at_call 15; refine (HJn.out).mono ?_; rintro e w1 ⟨rfl, hx⟩; have HX := hid hx; clear hx)
              | (go_at_call 14; refine (HR.out _).mono ?_; rintro e w2 ⟨rfl, hx⟩; have HX := hid (HX.out.trans hx); clear hx)
              | (go_at_call 7; refine (HA.out _ HX.out).mono ?_; rintro e w3 ⟨rfl, hx⟩; have HX := hid (HX.out.trans hx); clear hx))
            go_ret
            exact ⟨rfl, HX.out⟩
          | true =>
            obtain ⟨z1, z2⟩ := HG.out rfl hr
            rw [z1, z2] at HJn
            rw [hr] at HR
            have heq : (W.toList == W.toList) = true := by simp
            clear HF HG z1 z2 hr
            go_wp2_with (first
              | (go_at_call 15; refine (HJn.out).mono ?_; rintro e w1 ⟨rfl, hx⟩; have HX := hid hx; clear hx)
              | (go_at_call 14; refine (HR.out _).mono ?_; rintro e w2 ⟨rfl, hx⟩; have HX := hid (HX.out.trans hx); clear hx)
              | (go_at_call 7; refine (HA.out _ HX.out).mono ?_; rintro e w3 ⟨rfl, hx⟩; have HX := hid (HX.out.trans hx); clear hx))
            go_ret
            exact ⟨rfl, HX.out⟩
end Go.Proofs.YtfoafookodldfaaDoor
