/-
  lighteragelaw42.IndexLooks: its walk.
-/
import Derived.Test.YtfoafookodldfaaIdxLk
import Derived.Test.YtfoafookodldfaaIdxCov
import Derived.Test.YtfoafookodldfaaIdxZ
import Derived.Test.YtfoafookodldfaaIdxI
namespace Go.Proofs.Ytfoafookodldfaa
set_option linter.unusedSimpArgs false
set_option linter.unusedVariables false
open Go.RowKit

def laterV (q : List PairI) (s : ByteArray) (k : Nat) (a b c : Value) : Prop := a = .int .i64 (lessK s (q.take k)) ∧ b = .string (nextK s (q.take k)) ∧ c = .bool (foundK s (q.take k))

theorem hpre_parts {t s : ByteArray} (h : hpre t s = true) : s.size ≤ t.size ∧ decide (s.size ≤ t.size) = true ∧ ((t.extract 0 s.size).toList == s.toList) = true := by
  unfold hpre at h
  simp at h
  simp [h]
theorem hpre_not {t s : ByteArray} (h : hpre t s = false) (hz : s.size ≤ t.size) : ((t.extract 0 s.size).toList == s.toList) = false := by
  unfold hpre at h
  simpa [hz] using h




set_option maxRecDepth 100000 in
set_option maxHeartbeats 4000000 in
theorem ilooks_walk (w : World) (A : Option Addr) (c : Nat) (l : List ByteArray) (s : ByteArray) (at_ : Int) (hl : l.length ≤ 40) (hlc : l.length ≤ c) (hm : c ≤ maxLen) (hsl : Sl w 1 (.slice A l.length c) (Strs l)) (hls : ∀ t ∈ l, t.size ≤ maxLen) (hss : s.size ≤ maxLen)
    (hc : 0 < l.length → ∃ b o, A = some ⟨b, o, none⟩ ∧ b < w.heap.size ∧ ∀ k (h : k < l.length), w.cell? ⟨b, o + k, none⟩ = some (.string l[k])) :
    Calls Try.prog 5 #[.slice A l.length c, .string s, .int .i64 at_] w (Ret (.bool true) w) := by
  obtain ⟨i0, hi0, hz0, hz1, hz2⟩ := info_parts string_info
  unfold maxLen at hm
  go_enter Try.func5, Try.ntmps5
  go_wp2_with fail
  go_loopw [7, 8] (fun v i wr => ∃ k : Nat, k ≤ l.length ∧ i = .int .i64 k ∧ (k = 0 ∨ s.size ≤ 200) ∧ Ext w wr ∧ RowAt w.heap.size (newUpTo l k) v wr) (fun _ i _ => l.length - (intOf i).toNat)
  case atStart => exact ⟨0, by omega, rfl, .inl rfl, Ext.refl _, RowAt.nil _ _⟩
  case round =>
    obtain ⟨k, hk, rfl, hs2, hE, hR⟩ := hrel
    by_cases hlt : k < l.length
    · obtain ⟨b, o, hA, hbl, hcell⟩ := hc (by omega)
      cases hA
      have c0 := hE.cell (hcell k hlt)
      have lb := Nat.lt_of_lt_of_le hbl hE.size
      have HP := hid (rput_c wr _ u7 (newUpTo l k) l[k] k hR (by have := newUpTo_length l k; omega) (newUpTo_srt l k))
      rw [← newUpTo_succ l k hlt] at HP
      have HE := hid hE
      clear hcell hc hR hE hs2
      generalize l[k] = t at c0 HP
      by_cases h200 : 200 < t.size
      · have h2 : decide ((200 : Int) < (t.size : Int)) = true := by simp; omega
        go_wp2_with (go_at_call 12; refine (awake_c _).mono ?_; rintro e v2 ⟨rfl, z2⟩)
        go_ret
        exact ⟨rfl, HE.out.trans z2⟩
      · have h2 : decide ((200 : Int) < (t.size : Int)) = false := by simp; omega
        by_cases h300 : 200 < s.size
        · have h3 : decide ((200 : Int) < (s.size : Int)) = true := by simp; omega
          go_wp2_with (go_at_call 12; refine (awake_c _).mono ?_; rintro e v2 ⟨rfl, z2⟩)
          go_ret
          exact ⟨rfl, HE.out.trans z2⟩
        · have h3 : decide ((200 : Int) < (s.size : Int)) = false := by simp; omega
          go_wp2_with (go_at_call 16; refine (HP.out).mono ?_; rintro e' w' ⟨v', rfl, hv', hx'⟩; have HV' := hid hv'; have HX' := hid hx'; clear hv' hx')
          go_roundw
          case rel => exact ⟨k + 1, by omega, by go_num, .inr (by omega), HE.out.trans HX'.out, HV'.out.mono HE.out.size⟩
          case measure => simp [intOf]; omega
    · obtain rfl : k = l.length := by omega
      have HNw : Hid (∀ W, Ext w W → Calls Try.prog 11 #[.slice A l.length c] W (RetQ (NewIdx W.heap.size (newUpTo l l.length)) W)) := fun W he => new_c l _ W (by omega) (hsl.ext he)
      have HR := hid hR
      have HE := hid hE
      have hsr := hid (newUpTo_srt l l.length)
      have hlr := newUpTo_length l l.length
      have hsz : Hid (∀ p ∈ newUpTo l l.length, p.name.size ≤ maxLen) := fun p hp => hls _ (mem_newUpTo l _ (Nat.le_refl _) p hp)
      have hs3 : Hid (∀ p ∈ newUpTo l l.length, s.size + 1 ≤ maxLen) := fun p hp => by
        rcases hs2 with h | h
        · rw [h] at hp; cases hp
        · unfold maxLen; omega
      generalize newUpTo l l.length = q at HNw HR hsr hlr hsz hs3
      clear hE hR hsl hc hs2 hls
      obtain ⟨XA, XC, rfl, x1, x2, x3, _⟩ := HR.out
      unfold maxLen at x2 hss
      go_wp2_with fail
      generalize wr = W1 at *
      go_loopw [9, 10, 11, 12, 13, 14] (fun a b c v1 v2 i wr => ∃ k : Nat, k ≤ q.length ∧ i = .int .i64 k ∧ laterV q s k a b c ∧ Rows2 W1 wr 9 v1 v2 (coverK s (q.take k)) (beginK s (q.take k))) (fun _ _ _ _ _ i _ => q.length - (intOf i).toNat)
      case atStart => exact ⟨0, by omega, rfl, ⟨rfl, rfl, rfl⟩, ⟨Ext.refl _, ⟨rfl, .inl ⟨rfl, rfl⟩⟩, ⟨rfl, .inl ⟨rfl, rfl⟩⟩, fun a h => by simp [Value.ownBlock] at h⟩⟩
      case round =>
        obtain ⟨k, hk, rfl, ⟨rfl, rfl, rfl⟩, hP⟩ := hrel
        by_cases hlt : k < q.length
        · obtain ⟨b, rfl, _, lb, hcell⟩ := x3 (by omega)
          have c0 := hP.later.cell (hcell k hlt).1
          have lb1 := Nat.lt_of_lt_of_le lb hP.later.size
          have ha1 := coverK_le s (q.take k)
          have ha2 := beginK_le s (q.take k)
          have ha3 := lessK_le s (q.take k)
          rw [List.length_take] at ha1 ha2 ha3
          have HP := hid hP
          have s1 := hid (lessK_yes s q k hlt)
          have s2 := hid (lessK_no s q k hlt)
          have s3 := hid (foundK_succ s q k hlt)
          have s4 := hid (nextK_found s q k hlt)
          have s5 := hid (nextK_yes s q k hlt)
          have s6 := hid (nextK_no s q k hlt)
          have s7 := hid (coverK_yes s q k hlt)
          have s8 := hid (coverK_no s q k hlt)
          have s9 := hid (beginK_yes s q k hlt)
          have s10 := hid (beginK_no s q k hlt)
          have ht : q[k].name.size ≤ maxLen := hsz.out _ (List.getElem_mem hlt)
          have hs4 := hs3.out _ (List.getElem_mem hlt)
          have HCv : Hid (∀ W, Calls Try.prog 22 #[.string s, .string q[k].name] W (fun e w' => e = .returned (.bool (cov s q[k].name)) ∧ W = w')) := fun W => rcovers_c _ _ W ht (by omega)
          clear hcell x3 hP hsr hsz hs3 HNw HR HE
          generalize q[k].name = t at *
          generalize hL : lessK s (q.take k) = L0 at *
          generalize hF : foundK s (q.take k) = f0 at *
          generalize hX : nextK s (q.take k) = n0 at *
          generalize coverK s (q.take k) = A0 at *
          generalize beginK s (q.take k) = B0 at *
          clear hL hF hX
          unfold maxLen at ht hs4
          cases hb1 : blt t s with
          | true =>
            have hb2 := blt_asymm hb1
            have hpf : hpre t s = false := by
              cases hp : hpre t s with
              | false => rfl
              | true => have := less_pre _ _ ((hpre_iff _ _).1 hp); unfold blt at hb1; rw [hb1] at this; cases this
            have hcf : cov s t = false := by
              cases hcv : cov s t with
              | false => rfl
              | true => have := cov_hpre hcv; rw [hpf] at this; cases this
            have E1 := hid (s1.out hb1)
            have E3 : Hid (foundK s (q.take (k + 1)) = f0) := by have := s3.out; rw [hb2, Bool.or_false] at this; exact this
            have E2 : Hid (nextK s (q.take (k + 1)) = n0) := by
              cases f0 with
              | true => exact s4.out rfl
              | false => exact s6.out rfl hb2
            have E4 := hid (s8.out hcf)
            have E5 := hid (s10.out hpf)
            rw [hcf] at HCv
            unfold blt at hb1
            clear s1 s2 s3 s4 s5 s6 s7 s8 s9 s10 hb2 hcf
            by_cases hz : s.size ≤ t.size
            · have z1 : decide (s.size ≤ t.size) = true := decide_eq_true hz
              have z2 : ((t.extract 0 s.size).toList == s.toList) = false := hpre_not hpf hz
              clear hpf
              go_wp2_with (first
                | (go_at_call 22; refine (HCv.out _).mono ?_; rintro e w' ⟨rfl, rfl⟩)
                | (at_builtin; refine wpList_append_lies _ rfl (.tmp 80) (.tmp 82) _ rfl W1.heap.size 9 i0 _ 1 16 Try.underlying22 hi0 hz0 hz1 hz2 rfl (by omega) _ _ _ rfl (ownsRow_ext HP.out.fst (Ext.alloc _ _)) ⟨_, 0, none⟩ 1 1 [.string t] rfl rfl (World.news_of_block (cs := #[.string t]) (t := 9) (fr := (0, 0)) (heap_alloc_new _ _)) (by simp [Value.oneCell']) (by omega) (by unfold maxLen; omega) (by omega) ((HP.out.later.alloc' _).size) _ rfl ?_; intro g2 c2 w4 hown4 hgrow hat hlt4; have HP := hid (HP.out.step _ hown4 hgrow hat); clear hown4 hgrow hat hlt4)
                | (at_builtin; refine wpList_append_lies _ rfl (.tmp 97) (.tmp 99) _ rfl W1.heap.size 9 i0 _ 1 16 Try.underlying22 hi0 hz0 hz1 hz2 rfl (by omega) _ _ _ rfl (ownsRow_ext HP.out.snd (Ext.alloc _ _)) ⟨_, 0, none⟩ 1 1 [.string t] rfl rfl (World.news_of_block (cs := #[.string t]) (t := 9) (fr := (0, 0)) (heap_alloc_new _ _)) (by simp [Value.oneCell']) (by omega) (by unfold maxLen; omega) (by omega) ((HP.out.later.alloc' _).size) _ rfl ?_; intro g2 c2 w4 hown4 hgrow hat hlt4; have HP := hid (HP.out.symm.step _ hown4 hgrow hat).symm; clear hown4 hgrow hat hlt4)
                )
              go_roundw
              case rel => exact ⟨k + 1, by omega, by go_num, ⟨by rw [E1.out] <;> go_num, by rw [E2.out], by rw [E3.out]⟩, by rw [E4.out, E5.out]; exact HP.out⟩
              case measure => simp [intOf]; omega
            · have z1 : decide (s.size ≤ t.size) = false := decide_eq_false hz
              clear hpf hz
              go_wp2_with (first
                | (go_at_call 22; refine (HCv.out _).mono ?_; rintro e w' ⟨rfl, rfl⟩)
                | (at_builtin; refine wpList_append_lies _ rfl (.tmp 80) (.tmp 82) _ rfl W1.heap.size 9 i0 _ 1 16 Try.underlying22 hi0 hz0 hz1 hz2 rfl (by omega) _ _ _ rfl (ownsRow_ext HP.out.fst (Ext.alloc _ _)) ⟨_, 0, none⟩ 1 1 [.string t] rfl rfl (World.news_of_block (cs := #[.string t]) (t := 9) (fr := (0, 0)) (heap_alloc_new _ _)) (by simp [Value.oneCell']) (by omega) (by unfold maxLen; omega) (by omega) ((HP.out.later.alloc' _).size) _ rfl ?_; intro g2 c2 w4 hown4 hgrow hat hlt4; have HP := hid (HP.out.step _ hown4 hgrow hat); clear hown4 hgrow hat hlt4)
                | (at_builtin; refine wpList_append_lies _ rfl (.tmp 97) (.tmp 99) _ rfl W1.heap.size 9 i0 _ 1 16 Try.underlying22 hi0 hz0 hz1 hz2 rfl (by omega) _ _ _ rfl (ownsRow_ext HP.out.snd (Ext.alloc _ _)) ⟨_, 0, none⟩ 1 1 [.string t] rfl rfl (World.news_of_block (cs := #[.string t]) (t := 9) (fr := (0, 0)) (heap_alloc_new _ _)) (by simp [Value.oneCell']) (by omega) (by unfold maxLen; omega) (by omega) ((HP.out.later.alloc' _).size) _ rfl ?_; intro g2 c2 w4 hown4 hgrow hat hlt4; have HP := hid (HP.out.symm.step _ hown4 hgrow hat).symm; clear hown4 hgrow hat hlt4)
                )
              go_roundw
              case rel => exact ⟨k + 1, by omega, by go_num, ⟨by rw [E1.out] <;> go_num, by rw [E2.out], by rw [E3.out]⟩, by rw [E4.out, E5.out]; exact HP.out⟩
              case measure => simp [intOf]; omega
          | false =>
            have E1 := hid (s2.out hb1)
            by_cases hts : t = s
            · subst hts
              have hb2 := blt_irrefl t
              have hpt : hpre t t = true := (hpre_iff _ _).2 (List.prefix_refl _)
              have hct : cov t t = true := cov_of_empty (.inr (by simp))
              have E3 : Hid (foundK t (q.take (k + 1)) = f0) := by have := s3.out; rw [hb2, Bool.or_false] at this; exact this
              have E2 : Hid (nextK t (q.take (k + 1)) = n0) := by
                cases f0 with
                | true => exact s4.out rfl
                | false => exact s6.out rfl hb2
              have E4 := hid (s7.out hct)
              have E5 := hid (s9.out hpt)
              rw [hct] at HCv
              unfold blt at hb1
              have heq : (t.toList == t.toList) = true := by simp
              clear s1 s2 s3 s4 s5 s6 s7 s8 s9 s10 hb2 hct
              obtain ⟨hz, z1, z2⟩ := hpre_parts hpt
              clear hpt
              go_wp2_with (first
                | (go_at_call 22; refine (HCv.out _).mono ?_; rintro e w' ⟨rfl, rfl⟩)
                | (at_builtin; refine wpList_append_lies _ rfl (.tmp 80) (.tmp 82) _ rfl W1.heap.size 9 i0 _ 1 16 Try.underlying22 hi0 hz0 hz1 hz2 rfl (by omega) _ _ _ rfl (ownsRow_ext HP.out.fst (Ext.alloc _ _)) ⟨_, 0, none⟩ 1 1 [.string t] rfl rfl (World.news_of_block (cs := #[.string t]) (t := 9) (fr := (0, 0)) (heap_alloc_new _ _)) (by simp [Value.oneCell']) (by omega) (by unfold maxLen; omega) (by omega) ((HP.out.later.alloc' _).size) _ rfl ?_; intro g2 c2 w4 hown4 hgrow hat hlt4; have HP := hid (HP.out.step _ hown4 hgrow hat); clear hown4 hgrow hat hlt4)
                | (at_builtin; refine wpList_append_lies _ rfl (.tmp 97) (.tmp 99) _ rfl W1.heap.size 9 i0 _ 1 16 Try.underlying22 hi0 hz0 hz1 hz2 rfl (by omega) _ _ _ rfl (ownsRow_ext HP.out.snd (Ext.alloc _ _)) ⟨_, 0, none⟩ 1 1 [.string t] rfl rfl (World.news_of_block (cs := #[.string t]) (t := 9) (fr := (0, 0)) (heap_alloc_new _ _)) (by simp [Value.oneCell']) (by omega) (by unfold maxLen; omega) (by omega) ((HP.out.later.alloc' _).size) _ rfl ?_; intro g2 c2 w4 hown4 hgrow hat hlt4; have HP := hid (HP.out.symm.step _ hown4 hgrow hat).symm; clear hown4 hgrow hat hlt4)
                )
              go_roundw
              case rel => exact ⟨k + 1, by omega, by go_num, ⟨by rw [E1.out] <;> go_num, by rw [E2.out], by rw [E3.out]⟩, by rw [E4.out, E5.out]; exact HP.out⟩
              case measure => simp [intOf]; omega
            · have hb2 := blt_total hb1 hts
              have heq : (t.toList == s.toList) = false := by rw [beq_toList]; simp [hts]
              have E3 : Hid (foundK s (q.take (k + 1)) = true) := by have := s3.out; rw [hb2, Bool.or_true] at this; exact this
              unfold blt at hb1
              cases f0 with
              | true =>
                have E2 := hid (s4.out rfl)
                clear s1 s2 s3 s4 s5 s6 hts
                cases hpf : hpre t s with
                | false =>
                  have hcf : cov s t = false := by
                    cases hcv : cov s t with
                    | false => rfl
                    | true => have := cov_hpre hcv; rw [hpf] at this; cases this
                  have E4 := hid (s8.out hcf)
                  have E5 := hid (s10.out hpf)
                  rw [hcf] at HCv
                  clear s7 s8 s9 s10 hcf
                  by_cases hz : s.size ≤ t.size
                  · have z1 : decide (s.size ≤ t.size) = true := decide_eq_true hz
                    have z2 : ((t.extract 0 s.size).toList == s.toList) = false := hpre_not hpf hz
                    clear hpf
                    go_wp2_with (first
                      | (go_at_call 22; refine (HCv.out _).mono ?_; rintro e w' ⟨rfl, rfl⟩)
                      | (at_builtin; refine wpList_append_lies _ rfl (.tmp 80) (.tmp 82) _ rfl W1.heap.size 9 i0 _ 1 16 Try.underlying22 hi0 hz0 hz1 hz2 rfl (by omega) _ _ _ rfl (ownsRow_ext HP.out.fst (Ext.alloc _ _)) ⟨_, 0, none⟩ 1 1 [.string t] rfl rfl (World.news_of_block (cs := #[.string t]) (t := 9) (fr := (0, 0)) (heap_alloc_new _ _)) (by simp [Value.oneCell']) (by omega) (by unfold maxLen; omega) (by omega) ((HP.out.later.alloc' _).size) _ rfl ?_; intro g2 c2 w4 hown4 hgrow hat hlt4; have HP := hid (HP.out.step _ hown4 hgrow hat); clear hown4 hgrow hat hlt4)
                      | (at_builtin; refine wpList_append_lies _ rfl (.tmp 97) (.tmp 99) _ rfl W1.heap.size 9 i0 _ 1 16 Try.underlying22 hi0 hz0 hz1 hz2 rfl (by omega) _ _ _ rfl (ownsRow_ext HP.out.snd (Ext.alloc _ _)) ⟨_, 0, none⟩ 1 1 [.string t] rfl rfl (World.news_of_block (cs := #[.string t]) (t := 9) (fr := (0, 0)) (heap_alloc_new _ _)) (by simp [Value.oneCell']) (by omega) (by unfold maxLen; omega) (by omega) ((HP.out.later.alloc' _).size) _ rfl ?_; intro g2 c2 w4 hown4 hgrow hat hlt4; have HP := hid (HP.out.symm.step _ hown4 hgrow hat).symm; clear hown4 hgrow hat hlt4)
                      )
                    go_roundw
                    case rel => exact ⟨k + 1, by omega, by go_num, ⟨by rw [E1.out] <;> go_num, by rw [E2.out], by rw [E3.out]⟩, by rw [E4.out, E5.out]; exact HP.out⟩
                    case measure => simp [intOf]; omega
                  · have z1 : decide (s.size ≤ t.size) = false := decide_eq_false hz
                    clear hpf hz
                    go_wp2_with (first
                      | (go_at_call 22; refine (HCv.out _).mono ?_; rintro e w' ⟨rfl, rfl⟩)
                      | (at_builtin; refine wpList_append_lies _ rfl (.tmp 80) (.tmp 82) _ rfl W1.heap.size 9 i0 _ 1 16 Try.underlying22 hi0 hz0 hz1 hz2 rfl (by omega) _ _ _ rfl (ownsRow_ext HP.out.fst (Ext.alloc _ _)) ⟨_, 0, none⟩ 1 1 [.string t] rfl rfl (World.news_of_block (cs := #[.string t]) (t := 9) (fr := (0, 0)) (heap_alloc_new _ _)) (by simp [Value.oneCell']) (by omega) (by unfold maxLen; omega) (by omega) ((HP.out.later.alloc' _).size) _ rfl ?_; intro g2 c2 w4 hown4 hgrow hat hlt4; have HP := hid (HP.out.step _ hown4 hgrow hat); clear hown4 hgrow hat hlt4)
                      | (at_builtin; refine wpList_append_lies _ rfl (.tmp 97) (.tmp 99) _ rfl W1.heap.size 9 i0 _ 1 16 Try.underlying22 hi0 hz0 hz1 hz2 rfl (by omega) _ _ _ rfl (ownsRow_ext HP.out.snd (Ext.alloc _ _)) ⟨_, 0, none⟩ 1 1 [.string t] rfl rfl (World.news_of_block (cs := #[.string t]) (t := 9) (fr := (0, 0)) (heap_alloc_new _ _)) (by simp [Value.oneCell']) (by omega) (by unfold maxLen; omega) (by omega) ((HP.out.later.alloc' _).size) _ rfl ?_; intro g2 c2 w4 hown4 hgrow hat hlt4; have HP := hid (HP.out.symm.step _ hown4 hgrow hat).symm; clear hown4 hgrow hat hlt4)
                      )
                    go_roundw
                    case rel => exact ⟨k + 1, by omega, by go_num, ⟨by rw [E1.out] <;> go_num, by rw [E2.out], by rw [E3.out]⟩, by rw [E4.out, E5.out]; exact HP.out⟩
                    case measure => simp [intOf]; omega
                | true =>
                  have E5 := hid (s9.out hpf)
                  obtain ⟨hz, z1, z2⟩ := hpre_parts hpf
                  cases hcf : cov s t with
                  | false =>
                    have E4 := hid (s8.out hcf)
                    rw [hcf] at HCv
                    clear s7 s8 s9 s10 hcf hpf
                    go_wp2_with (first
                      | (go_at_call 22; refine (HCv.out _).mono ?_; rintro e w' ⟨rfl, rfl⟩)
                      | (at_builtin; refine wpList_append_lies _ rfl (.tmp 80) (.tmp 82) _ rfl W1.heap.size 9 i0 _ 1 16 Try.underlying22 hi0 hz0 hz1 hz2 rfl (by omega) _ _ _ rfl (ownsRow_ext HP.out.fst (Ext.alloc _ _)) ⟨_, 0, none⟩ 1 1 [.string t] rfl rfl (World.news_of_block (cs := #[.string t]) (t := 9) (fr := (0, 0)) (heap_alloc_new _ _)) (by simp [Value.oneCell']) (by omega) (by unfold maxLen; omega) (by omega) ((HP.out.later.alloc' _).size) _ rfl ?_; intro g2 c2 w4 hown4 hgrow hat hlt4; have HP := hid (HP.out.step _ hown4 hgrow hat); clear hown4 hgrow hat hlt4)
                      | (at_builtin; refine wpList_append_lies _ rfl (.tmp 97) (.tmp 99) _ rfl W1.heap.size 9 i0 _ 1 16 Try.underlying22 hi0 hz0 hz1 hz2 rfl (by omega) _ _ _ rfl (ownsRow_ext HP.out.snd (Ext.alloc _ _)) ⟨_, 0, none⟩ 1 1 [.string t] rfl rfl (World.news_of_block (cs := #[.string t]) (t := 9) (fr := (0, 0)) (heap_alloc_new _ _)) (by simp [Value.oneCell']) (by omega) (by unfold maxLen; omega) (by omega) ((HP.out.later.alloc' _).size) _ rfl ?_; intro g2 c2 w4 hown4 hgrow hat hlt4; have HP := hid (HP.out.symm.step _ hown4 hgrow hat).symm; clear hown4 hgrow hat hlt4)
                      )
                    go_roundw
                    case rel => exact ⟨k + 1, by omega, by go_num, ⟨by rw [E1.out] <;> go_num, by rw [E2.out], by rw [E3.out]⟩, by rw [E4.out, E5.out]; exact HP.out⟩
                    case measure => simp [intOf]; omega
                  | true =>
                    have E4 := hid (s7.out hcf)
                    rw [hcf] at HCv
                    clear s7 s8 s9 s10 hcf hpf
                    go_wp2_with (first
                      | (go_at_call 22; refine (HCv.out _).mono ?_; rintro e w' ⟨rfl, rfl⟩)
                      | (at_builtin; refine wpList_append_lies _ rfl (.tmp 80) (.tmp 82) _ rfl W1.heap.size 9 i0 _ 1 16 Try.underlying22 hi0 hz0 hz1 hz2 rfl (by omega) _ _ _ rfl (ownsRow_ext HP.out.fst (Ext.alloc _ _)) ⟨_, 0, none⟩ 1 1 [.string t] rfl rfl (World.news_of_block (cs := #[.string t]) (t := 9) (fr := (0, 0)) (heap_alloc_new _ _)) (by simp [Value.oneCell']) (by omega) (by unfold maxLen; omega) (by omega) ((HP.out.later.alloc' _).size) _ rfl ?_; intro g2 c2 w4 hown4 hgrow hat hlt4; have HP := hid (HP.out.step _ hown4 hgrow hat); clear hown4 hgrow hat hlt4)
                      | (at_builtin; refine wpList_append_lies _ rfl (.tmp 97) (.tmp 99) _ rfl W1.heap.size 9 i0 _ 1 16 Try.underlying22 hi0 hz0 hz1 hz2 rfl (by omega) _ _ _ rfl (ownsRow_ext HP.out.snd (Ext.alloc _ _)) ⟨_, 0, none⟩ 1 1 [.string t] rfl rfl (World.news_of_block (cs := #[.string t]) (t := 9) (fr := (0, 0)) (heap_alloc_new _ _)) (by simp [Value.oneCell']) (by omega) (by unfold maxLen; omega) (by omega) ((HP.out.later.alloc' _).size) _ rfl ?_; intro g2 c2 w4 hown4 hgrow hat hlt4; have HP := hid (HP.out.symm.step _ hown4 hgrow hat).symm; clear hown4 hgrow hat hlt4)
                      )
                    go_roundw
                    case rel => exact ⟨k + 1, by omega, by go_num, ⟨by rw [E1.out] <;> go_num, by rw [E2.out], by rw [E3.out]⟩, by rw [E4.out, E5.out]; exact HP.out⟩
                    case measure => simp [intOf]; omega
              | false =>
                have E2 := hid (s5.out rfl hb2)
                clear s1 s2 s3 s4 s5 s6 hts
                cases hpf : hpre t s with
                | false =>
                  have hcf : cov s t = false := by
                    cases hcv : cov s t with
                    | false => rfl
                    | true => have := cov_hpre hcv; rw [hpf] at this; cases this
                  have E4 := hid (s8.out hcf)
                  have E5 := hid (s10.out hpf)
                  rw [hcf] at HCv
                  clear s7 s8 s9 s10 hcf
                  by_cases hz : s.size ≤ t.size
                  · have z1 : decide (s.size ≤ t.size) = true := decide_eq_true hz
                    have z2 : ((t.extract 0 s.size).toList == s.toList) = false := hpre_not hpf hz
                    clear hpf
                    go_wp2_with (first
                      | (go_at_call 22; refine (HCv.out _).mono ?_; rintro e w' ⟨rfl, rfl⟩)
                      | (at_builtin; refine wpList_append_lies _ rfl (.tmp 80) (.tmp 82) _ rfl W1.heap.size 9 i0 _ 1 16 Try.underlying22 hi0 hz0 hz1 hz2 rfl (by omega) _ _ _ rfl (ownsRow_ext HP.out.fst (Ext.alloc _ _)) ⟨_, 0, none⟩ 1 1 [.string t] rfl rfl (World.news_of_block (cs := #[.string t]) (t := 9) (fr := (0, 0)) (heap_alloc_new _ _)) (by simp [Value.oneCell']) (by omega) (by unfold maxLen; omega) (by omega) ((HP.out.later.alloc' _).size) _ rfl ?_; intro g2 c2 w4 hown4 hgrow hat hlt4; have HP := hid (HP.out.step _ hown4 hgrow hat); clear hown4 hgrow hat hlt4)
                      | (at_builtin; refine wpList_append_lies _ rfl (.tmp 97) (.tmp 99) _ rfl W1.heap.size 9 i0 _ 1 16 Try.underlying22 hi0 hz0 hz1 hz2 rfl (by omega) _ _ _ rfl (ownsRow_ext HP.out.snd (Ext.alloc _ _)) ⟨_, 0, none⟩ 1 1 [.string t] rfl rfl (World.news_of_block (cs := #[.string t]) (t := 9) (fr := (0, 0)) (heap_alloc_new _ _)) (by simp [Value.oneCell']) (by omega) (by unfold maxLen; omega) (by omega) ((HP.out.later.alloc' _).size) _ rfl ?_; intro g2 c2 w4 hown4 hgrow hat hlt4; have HP := hid (HP.out.symm.step _ hown4 hgrow hat).symm; clear hown4 hgrow hat hlt4)
                      )
                    go_roundw
                    case rel => exact ⟨k + 1, by omega, by go_num, ⟨by rw [E1.out] <;> go_num, by rw [E2.out], by rw [E3.out]⟩, by rw [E4.out, E5.out]; exact HP.out⟩
                    case measure => simp [intOf]; omega
                  · have z1 : decide (s.size ≤ t.size) = false := decide_eq_false hz
                    clear hpf hz
                    go_wp2_with (first
                      | (go_at_call 22; refine (HCv.out _).mono ?_; rintro e w' ⟨rfl, rfl⟩)
                      | (at_builtin; refine wpList_append_lies _ rfl (.tmp 80) (.tmp 82) _ rfl W1.heap.size 9 i0 _ 1 16 Try.underlying22 hi0 hz0 hz1 hz2 rfl (by omega) _ _ _ rfl (ownsRow_ext HP.out.fst (Ext.alloc _ _)) ⟨_, 0, none⟩ 1 1 [.string t] rfl rfl (World.news_of_block (cs := #[.string t]) (t := 9) (fr := (0, 0)) (heap_alloc_new _ _)) (by simp [Value.oneCell']) (by omega) (by unfold maxLen; omega) (by omega) ((HP.out.later.alloc' _).size) _ rfl ?_; intro g2 c2 w4 hown4 hgrow hat hlt4; have HP := hid (HP.out.step _ hown4 hgrow hat); clear hown4 hgrow hat hlt4)
                      | (at_builtin; refine wpList_append_lies _ rfl (.tmp 97) (.tmp 99) _ rfl W1.heap.size 9 i0 _ 1 16 Try.underlying22 hi0 hz0 hz1 hz2 rfl (by omega) _ _ _ rfl (ownsRow_ext HP.out.snd (Ext.alloc _ _)) ⟨_, 0, none⟩ 1 1 [.string t] rfl rfl (World.news_of_block (cs := #[.string t]) (t := 9) (fr := (0, 0)) (heap_alloc_new _ _)) (by simp [Value.oneCell']) (by omega) (by unfold maxLen; omega) (by omega) ((HP.out.later.alloc' _).size) _ rfl ?_; intro g2 c2 w4 hown4 hgrow hat hlt4; have HP := hid (HP.out.symm.step _ hown4 hgrow hat).symm; clear hown4 hgrow hat hlt4)
                      )
                    go_roundw
                    case rel => exact ⟨k + 1, by omega, by go_num, ⟨by rw [E1.out] <;> go_num, by rw [E2.out], by rw [E3.out]⟩, by rw [E4.out, E5.out]; exact HP.out⟩
                    case measure => simp [intOf]; omega
                | true =>
                  have E5 := hid (s9.out hpf)
                  obtain ⟨hz, z1, z2⟩ := hpre_parts hpf
                  cases hcf : cov s t with
                  | false =>
                    have E4 := hid (s8.out hcf)
                    rw [hcf] at HCv
                    clear s7 s8 s9 s10 hcf hpf
                    go_wp2_with (first
                      | (go_at_call 22; refine (HCv.out _).mono ?_; rintro e w' ⟨rfl, rfl⟩)
                      | (at_builtin; refine wpList_append_lies _ rfl (.tmp 80) (.tmp 82) _ rfl W1.heap.size 9 i0 _ 1 16 Try.underlying22 hi0 hz0 hz1 hz2 rfl (by omega) _ _ _ rfl (ownsRow_ext HP.out.fst (Ext.alloc _ _)) ⟨_, 0, none⟩ 1 1 [.string t] rfl rfl (World.news_of_block (cs := #[.string t]) (t := 9) (fr := (0, 0)) (heap_alloc_new _ _)) (by simp [Value.oneCell']) (by omega) (by unfold maxLen; omega) (by omega) ((HP.out.later.alloc' _).size) _ rfl ?_; intro g2 c2 w4 hown4 hgrow hat hlt4; have HP := hid (HP.out.step _ hown4 hgrow hat); clear hown4 hgrow hat hlt4)
                      | (at_builtin; refine wpList_append_lies _ rfl (.tmp 97) (.tmp 99) _ rfl W1.heap.size 9 i0 _ 1 16 Try.underlying22 hi0 hz0 hz1 hz2 rfl (by omega) _ _ _ rfl (ownsRow_ext HP.out.snd (Ext.alloc _ _)) ⟨_, 0, none⟩ 1 1 [.string t] rfl rfl (World.news_of_block (cs := #[.string t]) (t := 9) (fr := (0, 0)) (heap_alloc_new _ _)) (by simp [Value.oneCell']) (by omega) (by unfold maxLen; omega) (by omega) ((HP.out.later.alloc' _).size) _ rfl ?_; intro g2 c2 w4 hown4 hgrow hat hlt4; have HP := hid (HP.out.symm.step _ hown4 hgrow hat).symm; clear hown4 hgrow hat hlt4)
                      )
                    go_roundw
                    case rel => exact ⟨k + 1, by omega, by go_num, ⟨by rw [E1.out] <;> go_num, by rw [E2.out], by rw [E3.out]⟩, by rw [E4.out, E5.out]; exact HP.out⟩
                    case measure => simp [intOf]; omega
                  | true =>
                    have E4 := hid (s7.out hcf)
                    rw [hcf] at HCv
                    clear s7 s8 s9 s10 hcf hpf
                    go_wp2_with (first
                      | (go_at_call 22; refine (HCv.out _).mono ?_; rintro e w' ⟨rfl, rfl⟩)
                      | (at_builtin; refine wpList_append_lies _ rfl (.tmp 80) (.tmp 82) _ rfl W1.heap.size 9 i0 _ 1 16 Try.underlying22 hi0 hz0 hz1 hz2 rfl (by omega) _ _ _ rfl (ownsRow_ext HP.out.fst (Ext.alloc _ _)) ⟨_, 0, none⟩ 1 1 [.string t] rfl rfl (World.news_of_block (cs := #[.string t]) (t := 9) (fr := (0, 0)) (heap_alloc_new _ _)) (by simp [Value.oneCell']) (by omega) (by unfold maxLen; omega) (by omega) ((HP.out.later.alloc' _).size) _ rfl ?_; intro g2 c2 w4 hown4 hgrow hat hlt4; have HP := hid (HP.out.step _ hown4 hgrow hat); clear hown4 hgrow hat hlt4)
                      | (at_builtin; refine wpList_append_lies _ rfl (.tmp 97) (.tmp 99) _ rfl W1.heap.size 9 i0 _ 1 16 Try.underlying22 hi0 hz0 hz1 hz2 rfl (by omega) _ _ _ rfl (ownsRow_ext HP.out.snd (Ext.alloc _ _)) ⟨_, 0, none⟩ 1 1 [.string t] rfl rfl (World.news_of_block (cs := #[.string t]) (t := 9) (fr := (0, 0)) (heap_alloc_new _ _)) (by simp [Value.oneCell']) (by omega) (by unfold maxLen; omega) (by omega) ((HP.out.later.alloc' _).size) _ rfl ?_; intro g2 c2 w4 hown4 hgrow hat hlt4; have HP := hid (HP.out.symm.step _ hown4 hgrow hat).symm; clear hown4 hgrow hat hlt4)
                      )
                    go_roundw
                    case rel => exact ⟨k + 1, by omega, by go_num, ⟨by rw [E1.out] <;> go_num, by rw [E2.out], by rw [E3.out]⟩, by rw [E4.out, E5.out]; exact HP.out⟩
                    case measure => simp [intOf]; omega
        · obtain rfl : k = q.length := by omega
          rw [List.take_length] at *
          have HE0 := hid (HE.out.trans hP.later)
          have HSu := hid (own_strs hP.fst)
          have HSb := hid (own_strs hP.snd)
          have HNw' : Hid (∀ W, Ext wr W → Calls Try.prog 11 #[.slice A l.length c] W (RetQ (NewIdx W.heap.size q) W)) := fun W he => HNw.out W (HE0.out.trans he)
          have HNx : Hid (∀ W g R, IdxAt W g R q → Calls Try.prog 23 #[.pointer (some ⟨g, 0, none⟩), .string s] W (Ret (.tuple #[.string (nextK s q), .bool (foundK s q)]) W)) := fun W g R h => by
            have := inext_c W g R q s h (by omega) hsr.out
            rw [nextPK_eq] at this
            exact this
          have HRk : Hid (∀ W g R, IdxAt W g R q → Calls Try.prog 21 #[.pointer (some ⟨g, 0, none⟩), .string s] W (Ret (.int .i64 (lessK s q)) W)) := fun W g R h => by
            rw [lessK_rk hsr.out]
            exact rank_c W g R q s h (by omega) hsr.out
          have HU : Hid (∀ W g R, IdxAt W g R q → Calls Try.prog 25 #[.pointer (some ⟨g, 0, none⟩), .string s] W (RetQ (fun v w' => Sl w' 1 v (Strs (coverK s q))) W)) := fun W g R h => by
            have := under_any W g R q s h (by omega) hsr.out hs3.out hsz.out
            rw [underK_all hsr.out] at this
            exact this
          have HBg : Hid (∀ W g R, IdxAt W g R q → Calls Try.prog 26 #[.pointer (some ⟨g, 0, none⟩), .string s] W (RetQ (fun v w' => Sl w' 1 v (Strs (beginK s q))) W)) := fun W g R h => by
            have := begins_c W g R q s h (by omega) hsr.out (by unfold maxLen; exact hss) hsz.out
            rw [beginsK_all hsr.out] at this
            exact this
          have HAt : Hid (∀ W g R, IdxAt W g R q → Calls Try.prog 15 #[.pointer (some ⟨g, 0, none⟩), .int .i64 at_] W (Ret (atK at_ q) W)) := fun W g R h => at_c W g R q at_ h
          have HTx : Hid (∀ W u v l, Sl W 1 u (Strs l) → Sl W 1 v (Strs l) → Calls Try.prog 24 #[u, v] W (Ret (.bool true) W)) := fun W u v l h1 h2 => by
            have := texts_c W u v _ _ h1 h2
            simpa using this
          have HC : Hid (Ext wr wr) := Ext.refl _
          have lW := hP.later.size
          have HP := hid hP
          clear hP hsr hsz hs3 HNw HR HE
          generalize lessK s q = L at *
          generalize foundK s q = fd at *
          generalize nextK s q = nx at *
          generalize coverK s q = A0 at *
          generalize beginK s q = B0 at *
          by_cases hneg : 0 ≤ at_
          · obtain ⟨j, rfl⟩ : ∃ j : Nat, at_ = j := ⟨at_.toNat, by omega⟩
            unfold atK at HAt
            rw [if_pos hneg, Int.toNat_natCast] at HAt
            by_cases hj : j < q.length
            · rw [List.getElem?_eq_getElem hj] at HAt
              obtain ⟨b, hA, _, lb, hcell⟩ := x3 (by omega)
              cases hA
              have j0 := HP.out.later.cell (hcell j hj).1
              have j1 := HP.out.later.cell (hcell j hj).2
              have d1 : decide (j < q.length) = true := decide_eq_true hj
              clear hcell x3 HP
              dsimp only at HAt
              generalize q[j].name = nm at HAt j0
              generalize q[j].n = m at HAt j1
              have hs : (nm.toList == nm.toList) = true := by simp
              go_wp2_with (first
                | (go_at_call 11; refine (HNw'.out _ HC.out).mono ?_; rintro e w2 ⟨d, rfl, hd, hx⟩; obtain ⟨g, R, rfl, _, _, hI⟩ := hd; have HI := hid hI; have HC := hid (HC.out.trans hx); clear hx hI)
                | (go_at_call 23; refine (HNx.out _ _ _ HI.out).mono ?_; rintro e w3 ⟨rfl, hx⟩; have HI := hid (HI.out.ext hx); have HC := hid (HC.out.trans hx); clear hx)
                | (go_at_call 15; refine (HAt.out _ _ _ HI.out).mono ?_; rintro e w4 ⟨rfl, hx⟩; have HI := hid (HI.out.ext hx); have HC := hid (HC.out.trans hx); clear hx; (have y0 := HC.out.cell j0; have y1 := HC.out.cell j1; have ly : b < w4.heap.size := Nat.lt_of_lt_of_le lb (Nat.le_trans lW HC.out.size)))
                | (go_at_call 12; refine (awake_c _).mono ?_; rintro e w5 ⟨rfl, hx⟩; have HI := hid (HI.out.ext hx); have HC := hid (HC.out.trans hx); clear hx)
                | (go_at_call 21; refine (HRk.out _ _ _ HI.out).mono ?_; rintro e w6 ⟨rfl, hx⟩; have HI := hid (HI.out.ext hx); have HC := hid (HC.out.trans hx); clear hx)
                | (go_at_call 25; refine (HU.out _ _ _ HI.out).mono ?_; rintro e w7 ⟨vu, rfl, hv, hx⟩; have HI := hid (HI.out.ext hx); have HC := hid (HC.out.trans hx); have HTU := hid (And.intro hv (HSu.out.ext HC.out)); clear hx hv)
                | (go_at_call 24; refine (HTx.out _ _ _ _ HTU.out.1 HTU.out.2).mono ?_; rintro e w8 ⟨rfl, hx⟩; have HI := hid (HI.out.ext hx); have HC := hid (HC.out.trans hx); clear hx HTU)
                | (go_at_call 26; refine (HBg.out _ _ _ HI.out).mono ?_; rintro e w9 ⟨vb, rfl, hv, hx⟩; have HI := hid (HI.out.ext hx); have HC := hid (HC.out.trans hx); have HTU := hid (And.intro hv (HSb.out.ext HC.out)); clear hx hv)
                )
              go_ret
              exact ⟨rfl, HE0.out.trans HC.out⟩
            · rw [List.getElem?_eq_none (by omega)] at HAt
              dsimp only at HAt
              have d1 : decide (j < q.length) = false := decide_eq_false hj
              clear x3 HP hneg
              go_wp2_with (first
                | (go_at_call 11; refine (HNw'.out _ HC.out).mono ?_; rintro e w2 ⟨d, rfl, hd, hx⟩; obtain ⟨g, R, rfl, _, _, hI⟩ := hd; have HI := hid hI; have HC := hid (HC.out.trans hx); clear hx hI)
                | (go_at_call 23; refine (HNx.out _ _ _ HI.out).mono ?_; rintro e w3 ⟨rfl, hx⟩; have HI := hid (HI.out.ext hx); have HC := hid (HC.out.trans hx); clear hx)
                | (go_at_call 15; refine (HAt.out _ _ _ HI.out).mono ?_; rintro e w4 ⟨rfl, hx⟩; have HI := hid (HI.out.ext hx); have HC := hid (HC.out.trans hx); clear hx; skip)
                | (go_at_call 12; refine (awake_c _).mono ?_; rintro e w5 ⟨rfl, hx⟩; have HI := hid (HI.out.ext hx); have HC := hid (HC.out.trans hx); clear hx)
                | (go_at_call 21; refine (HRk.out _ _ _ HI.out).mono ?_; rintro e w6 ⟨rfl, hx⟩; have HI := hid (HI.out.ext hx); have HC := hid (HC.out.trans hx); clear hx)
                | (go_at_call 25; refine (HU.out _ _ _ HI.out).mono ?_; rintro e w7 ⟨vu, rfl, hv, hx⟩; have HI := hid (HI.out.ext hx); have HC := hid (HC.out.trans hx); have HTU := hid (And.intro hv (HSu.out.ext HC.out)); clear hx hv)
                | (go_at_call 24; refine (HTx.out _ _ _ _ HTU.out.1 HTU.out.2).mono ?_; rintro e w8 ⟨rfl, hx⟩; have HI := hid (HI.out.ext hx); have HC := hid (HC.out.trans hx); clear hx HTU)
                | (go_at_call 26; refine (HBg.out _ _ _ HI.out).mono ?_; rintro e w9 ⟨vb, rfl, hv, hx⟩; have HI := hid (HI.out.ext hx); have HC := hid (HC.out.trans hx); have HTU := hid (And.intro hv (HSb.out.ext HC.out)); clear hx hv)
                )
              go_ret
              exact ⟨rfl, HE0.out.trans HC.out⟩
          · unfold atK at HAt
            rw [if_neg hneg] at HAt
            have d1 : decide ((0 : Int) ≤ at_) = false := decide_eq_false hneg
            clear x3 HP hneg
            go_wp2_with (first
              | (go_at_call 11; refine (HNw'.out _ HC.out).mono ?_; rintro e w2 ⟨d, rfl, hd, hx⟩; obtain ⟨g, R, rfl, _, _, hI⟩ := hd; have HI := hid hI; have HC := hid (HC.out.trans hx); clear hx hI)
              | (go_at_call 23; refine (HNx.out _ _ _ HI.out).mono ?_; rintro e w3 ⟨rfl, hx⟩; have HI := hid (HI.out.ext hx); have HC := hid (HC.out.trans hx); clear hx)
              | (go_at_call 15; refine (HAt.out _ _ _ HI.out).mono ?_; rintro e w4 ⟨rfl, hx⟩; have HI := hid (HI.out.ext hx); have HC := hid (HC.out.trans hx); clear hx; skip)
              | (go_at_call 12; refine (awake_c _).mono ?_; rintro e w5 ⟨rfl, hx⟩; have HI := hid (HI.out.ext hx); have HC := hid (HC.out.trans hx); clear hx)
              | (go_at_call 21; refine (HRk.out _ _ _ HI.out).mono ?_; rintro e w6 ⟨rfl, hx⟩; have HI := hid (HI.out.ext hx); have HC := hid (HC.out.trans hx); clear hx)
              | (go_at_call 25; refine (HU.out _ _ _ HI.out).mono ?_; rintro e w7 ⟨vu, rfl, hv, hx⟩; have HI := hid (HI.out.ext hx); have HC := hid (HC.out.trans hx); have HTU := hid (And.intro hv (HSu.out.ext HC.out)); clear hx hv)
              | (go_at_call 24; refine (HTx.out _ _ _ _ HTU.out.1 HTU.out.2).mono ?_; rintro e w8 ⟨rfl, hx⟩; have HI := hid (HI.out.ext hx); have HC := hid (HC.out.trans hx); clear hx HTU)
              | (go_at_call 26; refine (HBg.out _ _ _ HI.out).mono ?_; rintro e w9 ⟨vb, rfl, hv, hx⟩; have HI := hid (HI.out.ext hx); have HC := hid (HC.out.trans hx); have HTU := hid (And.intro hv (HSb.out.ext HC.out)); clear hx hv)
              )
            go_ret
            exact ⟨rfl, HE0.out.trans HC.out⟩
set_option maxRecDepth 100000 in
set_option maxHeartbeats 4000000 in
theorem ilooks_walk_long (w : World) (b0 o0 N c : Nat) (l : List ByteArray) (s : ByteArray) (at_ : Int) (hN : 40 < N) (hL : l.length = 40) (hlc : N ≤ c) (hm : c ≤ maxLen) (hsl : Sl w 1 (.slice (some ⟨b0, o0, none⟩) l.length c) (Strs l)) (hls : ∀ t ∈ l, t.size ≤ maxLen) (hss : s.size ≤ maxLen)
    (hc : 0 < l.length → ∃ b o, (some ⟨b0, o0, none⟩ : Option Addr) = some ⟨b, o, none⟩ ∧ b < w.heap.size ∧ ∀ k (h : k < l.length), w.cell? ⟨b, o + k, none⟩ = some (.string l[k])) :
    Calls Try.prog 5 #[.slice (some ⟨b0, o0, none⟩) N c, .string s, .int .i64 at_] w (Ret (.bool true) w) := by
  obtain ⟨i0, hi0, hz0, hz1, hz2⟩ := info_parts string_info
  have hl : l.length ≤ 40 := by omega
  have d0 : decide ((40 : Int) < (N : Int)) = true := by simp; omega
  unfold maxLen at hm
  go_enter Try.func5, Try.ntmps5
  go_wp2_with fail
  have hv : Value.slice (some ⟨b0, o0, none⟩) 40 c = Value.slice (some ⟨b0, o0, none⟩) l.length c := by rw [hL]
  rw [hv]
  clear hv hL hN d0
  go_loopw [7, 8] (fun v i wr => ∃ k : Nat, k ≤ l.length ∧ i = .int .i64 k ∧ (k = 0 ∨ s.size ≤ 200) ∧ Ext w wr ∧ RowAt w.heap.size (newUpTo l k) v wr) (fun _ i _ => l.length - (intOf i).toNat)
  case atStart => exact ⟨0, by omega, rfl, .inl rfl, Ext.refl _, RowAt.nil _ _⟩
  case round =>
    obtain ⟨k, hk, rfl, hs2, hE, hR⟩ := hrel
    by_cases hlt : k < l.length
    · obtain ⟨b, o, hA, hbl, hcell⟩ := hc (by omega)
      cases hA
      have c0 := hE.cell (hcell k hlt)
      have lb := Nat.lt_of_lt_of_le hbl hE.size
      have HP := hid (rput_c wr _ u7 (newUpTo l k) l[k] k hR (by have := newUpTo_length l k; omega) (newUpTo_srt l k))
      rw [← newUpTo_succ l k hlt] at HP
      have HE := hid hE
      clear hcell hc hR hE hs2
      generalize l[k] = t at c0 HP
      by_cases h200 : 200 < t.size
      · have h2 : decide ((200 : Int) < (t.size : Int)) = true := by simp; omega
        go_wp2_with (go_at_call 12; refine (awake_c _).mono ?_; rintro e v2 ⟨rfl, z2⟩)
        go_ret
        exact ⟨rfl, HE.out.trans z2⟩
      · have h2 : decide ((200 : Int) < (t.size : Int)) = false := by simp; omega
        by_cases h300 : 200 < s.size
        · have h3 : decide ((200 : Int) < (s.size : Int)) = true := by simp; omega
          go_wp2_with (go_at_call 12; refine (awake_c _).mono ?_; rintro e v2 ⟨rfl, z2⟩)
          go_ret
          exact ⟨rfl, HE.out.trans z2⟩
        · have h3 : decide ((200 : Int) < (s.size : Int)) = false := by simp; omega
          go_wp2_with (go_at_call 16; refine (HP.out).mono ?_; rintro e' w' ⟨v', rfl, hv', hx'⟩; have HV' := hid hv'; have HX' := hid hx'; clear hv' hx')
          go_roundw
          case rel => exact ⟨k + 1, by omega, by go_num, .inr (by omega), HE.out.trans HX'.out, HV'.out.mono HE.out.size⟩
          case measure => simp [intOf]; omega
    · obtain rfl : k = l.length := by omega
      have HNw : Hid (∀ W, Ext w W → Calls Try.prog 11 #[.slice (some ⟨b0, o0, none⟩) l.length c] W (RetQ (NewIdx W.heap.size (newUpTo l l.length)) W)) := fun W he => new_c l _ W (by omega) (hsl.ext he)
      have HR := hid hR
      have HE := hid hE
      have hsr := hid (newUpTo_srt l l.length)
      have hlr := newUpTo_length l l.length
      have hsz : Hid (∀ p ∈ newUpTo l l.length, p.name.size ≤ maxLen) := fun p hp => hls _ (mem_newUpTo l _ (Nat.le_refl _) p hp)
      have hs3 : Hid (∀ p ∈ newUpTo l l.length, s.size + 1 ≤ maxLen) := fun p hp => by
        rcases hs2 with h | h
        · rw [h] at hp; cases hp
        · unfold maxLen; omega
      generalize newUpTo l l.length = q at HNw HR hsr hlr hsz hs3
      clear hE hR hsl hc hs2 hls
      obtain ⟨XA, XC, rfl, x1, x2, x3, _⟩ := HR.out
      unfold maxLen at x2 hss
      go_wp2_with fail
      generalize wr = W1 at *
      go_loopw [9, 10, 11, 12, 13, 14] (fun a b c v1 v2 i wr => ∃ k : Nat, k ≤ q.length ∧ i = .int .i64 k ∧ laterV q s k a b c ∧ Rows2 W1 wr 9 v1 v2 (coverK s (q.take k)) (beginK s (q.take k))) (fun _ _ _ _ _ i _ => q.length - (intOf i).toNat)
      case atStart => exact ⟨0, by omega, rfl, ⟨rfl, rfl, rfl⟩, ⟨Ext.refl _, ⟨rfl, .inl ⟨rfl, rfl⟩⟩, ⟨rfl, .inl ⟨rfl, rfl⟩⟩, fun a h => by simp [Value.ownBlock] at h⟩⟩
      case round =>
        obtain ⟨k, hk, rfl, ⟨rfl, rfl, rfl⟩, hP⟩ := hrel
        by_cases hlt : k < q.length
        · obtain ⟨b, rfl, _, lb, hcell⟩ := x3 (by omega)
          have c0 := hP.later.cell (hcell k hlt).1
          have lb1 := Nat.lt_of_lt_of_le lb hP.later.size
          have ha1 := coverK_le s (q.take k)
          have ha2 := beginK_le s (q.take k)
          have ha3 := lessK_le s (q.take k)
          rw [List.length_take] at ha1 ha2 ha3
          have HP := hid hP
          have s1 := hid (lessK_yes s q k hlt)
          have s2 := hid (lessK_no s q k hlt)
          have s3 := hid (foundK_succ s q k hlt)
          have s4 := hid (nextK_found s q k hlt)
          have s5 := hid (nextK_yes s q k hlt)
          have s6 := hid (nextK_no s q k hlt)
          have s7 := hid (coverK_yes s q k hlt)
          have s8 := hid (coverK_no s q k hlt)
          have s9 := hid (beginK_yes s q k hlt)
          have s10 := hid (beginK_no s q k hlt)
          have ht : q[k].name.size ≤ maxLen := hsz.out _ (List.getElem_mem hlt)
          have hs4 := hs3.out _ (List.getElem_mem hlt)
          have HCv : Hid (∀ W, Calls Try.prog 22 #[.string s, .string q[k].name] W (fun e w' => e = .returned (.bool (cov s q[k].name)) ∧ W = w')) := fun W => rcovers_c _ _ W ht (by omega)
          clear hcell x3 hP hsr hsz hs3 HNw HR HE
          generalize q[k].name = t at *
          generalize hL : lessK s (q.take k) = L0 at *
          generalize hF : foundK s (q.take k) = f0 at *
          generalize hX : nextK s (q.take k) = n0 at *
          generalize coverK s (q.take k) = A0 at *
          generalize beginK s (q.take k) = B0 at *
          clear hL hF hX
          unfold maxLen at ht hs4
          cases hb1 : blt t s with
          | true =>
            have hb2 := blt_asymm hb1
            have hpf : hpre t s = false := by
              cases hp : hpre t s with
              | false => rfl
              | true => have := less_pre _ _ ((hpre_iff _ _).1 hp); unfold blt at hb1; rw [hb1] at this; cases this
            have hcf : cov s t = false := by
              cases hcv : cov s t with
              | false => rfl
              | true => have := cov_hpre hcv; rw [hpf] at this; cases this
            have E1 := hid (s1.out hb1)
            have E3 : Hid (foundK s (q.take (k + 1)) = f0) := by have := s3.out; rw [hb2, Bool.or_false] at this; exact this
            have E2 : Hid (nextK s (q.take (k + 1)) = n0) := by
              cases f0 with
              | true => exact s4.out rfl
              | false => exact s6.out rfl hb2
            have E4 := hid (s8.out hcf)
            have E5 := hid (s10.out hpf)
            rw [hcf] at HCv
            unfold blt at hb1
            clear s1 s2 s3 s4 s5 s6 s7 s8 s9 s10 hb2 hcf
            by_cases hz : s.size ≤ t.size
            · have z1 : decide (s.size ≤ t.size) = true := decide_eq_true hz
              have z2 : ((t.extract 0 s.size).toList == s.toList) = false := hpre_not hpf hz
              clear hpf
              go_wp2_with (first
                | (go_at_call 22; refine (HCv.out _).mono ?_; rintro e w' ⟨rfl, rfl⟩)
                | (at_builtin; refine wpList_append_lies _ rfl (.tmp 80) (.tmp 82) _ rfl W1.heap.size 9 i0 _ 1 16 Try.underlying22 hi0 hz0 hz1 hz2 rfl (by omega) _ _ _ rfl (ownsRow_ext HP.out.fst (Ext.alloc _ _)) ⟨_, 0, none⟩ 1 1 [.string t] rfl rfl (World.news_of_block (cs := #[.string t]) (t := 9) (fr := (0, 0)) (heap_alloc_new _ _)) (by simp [Value.oneCell']) (by omega) (by unfold maxLen; omega) (by omega) ((HP.out.later.alloc' _).size) _ rfl ?_; intro g2 c2 w4 hown4 hgrow hat hlt4; have HP := hid (HP.out.step _ hown4 hgrow hat); clear hown4 hgrow hat hlt4)
                | (at_builtin; refine wpList_append_lies _ rfl (.tmp 97) (.tmp 99) _ rfl W1.heap.size 9 i0 _ 1 16 Try.underlying22 hi0 hz0 hz1 hz2 rfl (by omega) _ _ _ rfl (ownsRow_ext HP.out.snd (Ext.alloc _ _)) ⟨_, 0, none⟩ 1 1 [.string t] rfl rfl (World.news_of_block (cs := #[.string t]) (t := 9) (fr := (0, 0)) (heap_alloc_new _ _)) (by simp [Value.oneCell']) (by omega) (by unfold maxLen; omega) (by omega) ((HP.out.later.alloc' _).size) _ rfl ?_; intro g2 c2 w4 hown4 hgrow hat hlt4; have HP := hid (HP.out.symm.step _ hown4 hgrow hat).symm; clear hown4 hgrow hat hlt4)
                )
              go_roundw
              case rel => exact ⟨k + 1, by omega, by go_num, ⟨by rw [E1.out] <;> go_num, by rw [E2.out], by rw [E3.out]⟩, by rw [E4.out, E5.out]; exact HP.out⟩
              case measure => simp [intOf]; omega
            · have z1 : decide (s.size ≤ t.size) = false := decide_eq_false hz
              clear hpf hz
              go_wp2_with (first
                | (go_at_call 22; refine (HCv.out _).mono ?_; rintro e w' ⟨rfl, rfl⟩)
                | (at_builtin; refine wpList_append_lies _ rfl (.tmp 80) (.tmp 82) _ rfl W1.heap.size 9 i0 _ 1 16 Try.underlying22 hi0 hz0 hz1 hz2 rfl (by omega) _ _ _ rfl (ownsRow_ext HP.out.fst (Ext.alloc _ _)) ⟨_, 0, none⟩ 1 1 [.string t] rfl rfl (World.news_of_block (cs := #[.string t]) (t := 9) (fr := (0, 0)) (heap_alloc_new _ _)) (by simp [Value.oneCell']) (by omega) (by unfold maxLen; omega) (by omega) ((HP.out.later.alloc' _).size) _ rfl ?_; intro g2 c2 w4 hown4 hgrow hat hlt4; have HP := hid (HP.out.step _ hown4 hgrow hat); clear hown4 hgrow hat hlt4)
                | (at_builtin; refine wpList_append_lies _ rfl (.tmp 97) (.tmp 99) _ rfl W1.heap.size 9 i0 _ 1 16 Try.underlying22 hi0 hz0 hz1 hz2 rfl (by omega) _ _ _ rfl (ownsRow_ext HP.out.snd (Ext.alloc _ _)) ⟨_, 0, none⟩ 1 1 [.string t] rfl rfl (World.news_of_block (cs := #[.string t]) (t := 9) (fr := (0, 0)) (heap_alloc_new _ _)) (by simp [Value.oneCell']) (by omega) (by unfold maxLen; omega) (by omega) ((HP.out.later.alloc' _).size) _ rfl ?_; intro g2 c2 w4 hown4 hgrow hat hlt4; have HP := hid (HP.out.symm.step _ hown4 hgrow hat).symm; clear hown4 hgrow hat hlt4)
                )
              go_roundw
              case rel => exact ⟨k + 1, by omega, by go_num, ⟨by rw [E1.out] <;> go_num, by rw [E2.out], by rw [E3.out]⟩, by rw [E4.out, E5.out]; exact HP.out⟩
              case measure => simp [intOf]; omega
          | false =>
            have E1 := hid (s2.out hb1)
            by_cases hts : t = s
            · subst hts
              have hb2 := blt_irrefl t
              have hpt : hpre t t = true := (hpre_iff _ _).2 (List.prefix_refl _)
              have hct : cov t t = true := cov_of_empty (.inr (by simp))
              have E3 : Hid (foundK t (q.take (k + 1)) = f0) := by have := s3.out; rw [hb2, Bool.or_false] at this; exact this
              have E2 : Hid (nextK t (q.take (k + 1)) = n0) := by
                cases f0 with
                | true => exact s4.out rfl
                | false => exact s6.out rfl hb2
              have E4 := hid (s7.out hct)
              have E5 := hid (s9.out hpt)
              rw [hct] at HCv
              unfold blt at hb1
              have heq : (t.toList == t.toList) = true := by simp
              clear s1 s2 s3 s4 s5 s6 s7 s8 s9 s10 hb2 hct
              obtain ⟨hz, z1, z2⟩ := hpre_parts hpt
              clear hpt
              go_wp2_with (first
                | (go_at_call 22; refine (HCv.out _).mono ?_; rintro e w' ⟨rfl, rfl⟩)
                | (at_builtin; refine wpList_append_lies _ rfl (.tmp 80) (.tmp 82) _ rfl W1.heap.size 9 i0 _ 1 16 Try.underlying22 hi0 hz0 hz1 hz2 rfl (by omega) _ _ _ rfl (ownsRow_ext HP.out.fst (Ext.alloc _ _)) ⟨_, 0, none⟩ 1 1 [.string t] rfl rfl (World.news_of_block (cs := #[.string t]) (t := 9) (fr := (0, 0)) (heap_alloc_new _ _)) (by simp [Value.oneCell']) (by omega) (by unfold maxLen; omega) (by omega) ((HP.out.later.alloc' _).size) _ rfl ?_; intro g2 c2 w4 hown4 hgrow hat hlt4; have HP := hid (HP.out.step _ hown4 hgrow hat); clear hown4 hgrow hat hlt4)
                | (at_builtin; refine wpList_append_lies _ rfl (.tmp 97) (.tmp 99) _ rfl W1.heap.size 9 i0 _ 1 16 Try.underlying22 hi0 hz0 hz1 hz2 rfl (by omega) _ _ _ rfl (ownsRow_ext HP.out.snd (Ext.alloc _ _)) ⟨_, 0, none⟩ 1 1 [.string t] rfl rfl (World.news_of_block (cs := #[.string t]) (t := 9) (fr := (0, 0)) (heap_alloc_new _ _)) (by simp [Value.oneCell']) (by omega) (by unfold maxLen; omega) (by omega) ((HP.out.later.alloc' _).size) _ rfl ?_; intro g2 c2 w4 hown4 hgrow hat hlt4; have HP := hid (HP.out.symm.step _ hown4 hgrow hat).symm; clear hown4 hgrow hat hlt4)
                )
              go_roundw
              case rel => exact ⟨k + 1, by omega, by go_num, ⟨by rw [E1.out] <;> go_num, by rw [E2.out], by rw [E3.out]⟩, by rw [E4.out, E5.out]; exact HP.out⟩
              case measure => simp [intOf]; omega
            · have hb2 := blt_total hb1 hts
              have heq : (t.toList == s.toList) = false := by rw [beq_toList]; simp [hts]
              have E3 : Hid (foundK s (q.take (k + 1)) = true) := by have := s3.out; rw [hb2, Bool.or_true] at this; exact this
              unfold blt at hb1
              cases f0 with
              | true =>
                have E2 := hid (s4.out rfl)
                clear s1 s2 s3 s4 s5 s6 hts
                cases hpf : hpre t s with
                | false =>
                  have hcf : cov s t = false := by
                    cases hcv : cov s t with
                    | false => rfl
                    | true => have := cov_hpre hcv; rw [hpf] at this; cases this
                  have E4 := hid (s8.out hcf)
                  have E5 := hid (s10.out hpf)
                  rw [hcf] at HCv
                  clear s7 s8 s9 s10 hcf
                  by_cases hz : s.size ≤ t.size
                  · have z1 : decide (s.size ≤ t.size) = true := decide_eq_true hz
                    have z2 : ((t.extract 0 s.size).toList == s.toList) = false := hpre_not hpf hz
                    clear hpf
                    go_wp2_with (first
                      | (go_at_call 22; refine (HCv.out _).mono ?_; rintro e w' ⟨rfl, rfl⟩)
                      | (at_builtin; refine wpList_append_lies _ rfl (.tmp 80) (.tmp 82) _ rfl W1.heap.size 9 i0 _ 1 16 Try.underlying22 hi0 hz0 hz1 hz2 rfl (by omega) _ _ _ rfl (ownsRow_ext HP.out.fst (Ext.alloc _ _)) ⟨_, 0, none⟩ 1 1 [.string t] rfl rfl (World.news_of_block (cs := #[.string t]) (t := 9) (fr := (0, 0)) (heap_alloc_new _ _)) (by simp [Value.oneCell']) (by omega) (by unfold maxLen; omega) (by omega) ((HP.out.later.alloc' _).size) _ rfl ?_; intro g2 c2 w4 hown4 hgrow hat hlt4; have HP := hid (HP.out.step _ hown4 hgrow hat); clear hown4 hgrow hat hlt4)
                      | (at_builtin; refine wpList_append_lies _ rfl (.tmp 97) (.tmp 99) _ rfl W1.heap.size 9 i0 _ 1 16 Try.underlying22 hi0 hz0 hz1 hz2 rfl (by omega) _ _ _ rfl (ownsRow_ext HP.out.snd (Ext.alloc _ _)) ⟨_, 0, none⟩ 1 1 [.string t] rfl rfl (World.news_of_block (cs := #[.string t]) (t := 9) (fr := (0, 0)) (heap_alloc_new _ _)) (by simp [Value.oneCell']) (by omega) (by unfold maxLen; omega) (by omega) ((HP.out.later.alloc' _).size) _ rfl ?_; intro g2 c2 w4 hown4 hgrow hat hlt4; have HP := hid (HP.out.symm.step _ hown4 hgrow hat).symm; clear hown4 hgrow hat hlt4)
                      )
                    go_roundw
                    case rel => exact ⟨k + 1, by omega, by go_num, ⟨by rw [E1.out] <;> go_num, by rw [E2.out], by rw [E3.out]⟩, by rw [E4.out, E5.out]; exact HP.out⟩
                    case measure => simp [intOf]; omega
                  · have z1 : decide (s.size ≤ t.size) = false := decide_eq_false hz
                    clear hpf hz
                    go_wp2_with (first
                      | (go_at_call 22; refine (HCv.out _).mono ?_; rintro e w' ⟨rfl, rfl⟩)
                      | (at_builtin; refine wpList_append_lies _ rfl (.tmp 80) (.tmp 82) _ rfl W1.heap.size 9 i0 _ 1 16 Try.underlying22 hi0 hz0 hz1 hz2 rfl (by omega) _ _ _ rfl (ownsRow_ext HP.out.fst (Ext.alloc _ _)) ⟨_, 0, none⟩ 1 1 [.string t] rfl rfl (World.news_of_block (cs := #[.string t]) (t := 9) (fr := (0, 0)) (heap_alloc_new _ _)) (by simp [Value.oneCell']) (by omega) (by unfold maxLen; omega) (by omega) ((HP.out.later.alloc' _).size) _ rfl ?_; intro g2 c2 w4 hown4 hgrow hat hlt4; have HP := hid (HP.out.step _ hown4 hgrow hat); clear hown4 hgrow hat hlt4)
                      | (at_builtin; refine wpList_append_lies _ rfl (.tmp 97) (.tmp 99) _ rfl W1.heap.size 9 i0 _ 1 16 Try.underlying22 hi0 hz0 hz1 hz2 rfl (by omega) _ _ _ rfl (ownsRow_ext HP.out.snd (Ext.alloc _ _)) ⟨_, 0, none⟩ 1 1 [.string t] rfl rfl (World.news_of_block (cs := #[.string t]) (t := 9) (fr := (0, 0)) (heap_alloc_new _ _)) (by simp [Value.oneCell']) (by omega) (by unfold maxLen; omega) (by omega) ((HP.out.later.alloc' _).size) _ rfl ?_; intro g2 c2 w4 hown4 hgrow hat hlt4; have HP := hid (HP.out.symm.step _ hown4 hgrow hat).symm; clear hown4 hgrow hat hlt4)
                      )
                    go_roundw
                    case rel => exact ⟨k + 1, by omega, by go_num, ⟨by rw [E1.out] <;> go_num, by rw [E2.out], by rw [E3.out]⟩, by rw [E4.out, E5.out]; exact HP.out⟩
                    case measure => simp [intOf]; omega
                | true =>
                  have E5 := hid (s9.out hpf)
                  obtain ⟨hz, z1, z2⟩ := hpre_parts hpf
                  cases hcf : cov s t with
                  | false =>
                    have E4 := hid (s8.out hcf)
                    rw [hcf] at HCv
                    clear s7 s8 s9 s10 hcf hpf
                    go_wp2_with (first
                      | (go_at_call 22; refine (HCv.out _).mono ?_; rintro e w' ⟨rfl, rfl⟩)
                      | (at_builtin; refine wpList_append_lies _ rfl (.tmp 80) (.tmp 82) _ rfl W1.heap.size 9 i0 _ 1 16 Try.underlying22 hi0 hz0 hz1 hz2 rfl (by omega) _ _ _ rfl (ownsRow_ext HP.out.fst (Ext.alloc _ _)) ⟨_, 0, none⟩ 1 1 [.string t] rfl rfl (World.news_of_block (cs := #[.string t]) (t := 9) (fr := (0, 0)) (heap_alloc_new _ _)) (by simp [Value.oneCell']) (by omega) (by unfold maxLen; omega) (by omega) ((HP.out.later.alloc' _).size) _ rfl ?_; intro g2 c2 w4 hown4 hgrow hat hlt4; have HP := hid (HP.out.step _ hown4 hgrow hat); clear hown4 hgrow hat hlt4)
                      | (at_builtin; refine wpList_append_lies _ rfl (.tmp 97) (.tmp 99) _ rfl W1.heap.size 9 i0 _ 1 16 Try.underlying22 hi0 hz0 hz1 hz2 rfl (by omega) _ _ _ rfl (ownsRow_ext HP.out.snd (Ext.alloc _ _)) ⟨_, 0, none⟩ 1 1 [.string t] rfl rfl (World.news_of_block (cs := #[.string t]) (t := 9) (fr := (0, 0)) (heap_alloc_new _ _)) (by simp [Value.oneCell']) (by omega) (by unfold maxLen; omega) (by omega) ((HP.out.later.alloc' _).size) _ rfl ?_; intro g2 c2 w4 hown4 hgrow hat hlt4; have HP := hid (HP.out.symm.step _ hown4 hgrow hat).symm; clear hown4 hgrow hat hlt4)
                      )
                    go_roundw
                    case rel => exact ⟨k + 1, by omega, by go_num, ⟨by rw [E1.out] <;> go_num, by rw [E2.out], by rw [E3.out]⟩, by rw [E4.out, E5.out]; exact HP.out⟩
                    case measure => simp [intOf]; omega
                  | true =>
                    have E4 := hid (s7.out hcf)
                    rw [hcf] at HCv
                    clear s7 s8 s9 s10 hcf hpf
                    go_wp2_with (first
                      | (go_at_call 22; refine (HCv.out _).mono ?_; rintro e w' ⟨rfl, rfl⟩)
                      | (at_builtin; refine wpList_append_lies _ rfl (.tmp 80) (.tmp 82) _ rfl W1.heap.size 9 i0 _ 1 16 Try.underlying22 hi0 hz0 hz1 hz2 rfl (by omega) _ _ _ rfl (ownsRow_ext HP.out.fst (Ext.alloc _ _)) ⟨_, 0, none⟩ 1 1 [.string t] rfl rfl (World.news_of_block (cs := #[.string t]) (t := 9) (fr := (0, 0)) (heap_alloc_new _ _)) (by simp [Value.oneCell']) (by omega) (by unfold maxLen; omega) (by omega) ((HP.out.later.alloc' _).size) _ rfl ?_; intro g2 c2 w4 hown4 hgrow hat hlt4; have HP := hid (HP.out.step _ hown4 hgrow hat); clear hown4 hgrow hat hlt4)
                      | (at_builtin; refine wpList_append_lies _ rfl (.tmp 97) (.tmp 99) _ rfl W1.heap.size 9 i0 _ 1 16 Try.underlying22 hi0 hz0 hz1 hz2 rfl (by omega) _ _ _ rfl (ownsRow_ext HP.out.snd (Ext.alloc _ _)) ⟨_, 0, none⟩ 1 1 [.string t] rfl rfl (World.news_of_block (cs := #[.string t]) (t := 9) (fr := (0, 0)) (heap_alloc_new _ _)) (by simp [Value.oneCell']) (by omega) (by unfold maxLen; omega) (by omega) ((HP.out.later.alloc' _).size) _ rfl ?_; intro g2 c2 w4 hown4 hgrow hat hlt4; have HP := hid (HP.out.symm.step _ hown4 hgrow hat).symm; clear hown4 hgrow hat hlt4)
                      )
                    go_roundw
                    case rel => exact ⟨k + 1, by omega, by go_num, ⟨by rw [E1.out] <;> go_num, by rw [E2.out], by rw [E3.out]⟩, by rw [E4.out, E5.out]; exact HP.out⟩
                    case measure => simp [intOf]; omega
              | false =>
                have E2 := hid (s5.out rfl hb2)
                clear s1 s2 s3 s4 s5 s6 hts
                cases hpf : hpre t s with
                | false =>
                  have hcf : cov s t = false := by
                    cases hcv : cov s t with
                    | false => rfl
                    | true => have := cov_hpre hcv; rw [hpf] at this; cases this
                  have E4 := hid (s8.out hcf)
                  have E5 := hid (s10.out hpf)
                  rw [hcf] at HCv
                  clear s7 s8 s9 s10 hcf
                  by_cases hz : s.size ≤ t.size
                  · have z1 : decide (s.size ≤ t.size) = true := decide_eq_true hz
                    have z2 : ((t.extract 0 s.size).toList == s.toList) = false := hpre_not hpf hz
                    clear hpf
                    go_wp2_with (first
                      | (go_at_call 22; refine (HCv.out _).mono ?_; rintro e w' ⟨rfl, rfl⟩)
                      | (at_builtin; refine wpList_append_lies _ rfl (.tmp 80) (.tmp 82) _ rfl W1.heap.size 9 i0 _ 1 16 Try.underlying22 hi0 hz0 hz1 hz2 rfl (by omega) _ _ _ rfl (ownsRow_ext HP.out.fst (Ext.alloc _ _)) ⟨_, 0, none⟩ 1 1 [.string t] rfl rfl (World.news_of_block (cs := #[.string t]) (t := 9) (fr := (0, 0)) (heap_alloc_new _ _)) (by simp [Value.oneCell']) (by omega) (by unfold maxLen; omega) (by omega) ((HP.out.later.alloc' _).size) _ rfl ?_; intro g2 c2 w4 hown4 hgrow hat hlt4; have HP := hid (HP.out.step _ hown4 hgrow hat); clear hown4 hgrow hat hlt4)
                      | (at_builtin; refine wpList_append_lies _ rfl (.tmp 97) (.tmp 99) _ rfl W1.heap.size 9 i0 _ 1 16 Try.underlying22 hi0 hz0 hz1 hz2 rfl (by omega) _ _ _ rfl (ownsRow_ext HP.out.snd (Ext.alloc _ _)) ⟨_, 0, none⟩ 1 1 [.string t] rfl rfl (World.news_of_block (cs := #[.string t]) (t := 9) (fr := (0, 0)) (heap_alloc_new _ _)) (by simp [Value.oneCell']) (by omega) (by unfold maxLen; omega) (by omega) ((HP.out.later.alloc' _).size) _ rfl ?_; intro g2 c2 w4 hown4 hgrow hat hlt4; have HP := hid (HP.out.symm.step _ hown4 hgrow hat).symm; clear hown4 hgrow hat hlt4)
                      )
                    go_roundw
                    case rel => exact ⟨k + 1, by omega, by go_num, ⟨by rw [E1.out] <;> go_num, by rw [E2.out], by rw [E3.out]⟩, by rw [E4.out, E5.out]; exact HP.out⟩
                    case measure => simp [intOf]; omega
                  · have z1 : decide (s.size ≤ t.size) = false := decide_eq_false hz
                    clear hpf hz
                    go_wp2_with (first
                      | (go_at_call 22; refine (HCv.out _).mono ?_; rintro e w' ⟨rfl, rfl⟩)
                      | (at_builtin; refine wpList_append_lies _ rfl (.tmp 80) (.tmp 82) _ rfl W1.heap.size 9 i0 _ 1 16 Try.underlying22 hi0 hz0 hz1 hz2 rfl (by omega) _ _ _ rfl (ownsRow_ext HP.out.fst (Ext.alloc _ _)) ⟨_, 0, none⟩ 1 1 [.string t] rfl rfl (World.news_of_block (cs := #[.string t]) (t := 9) (fr := (0, 0)) (heap_alloc_new _ _)) (by simp [Value.oneCell']) (by omega) (by unfold maxLen; omega) (by omega) ((HP.out.later.alloc' _).size) _ rfl ?_; intro g2 c2 w4 hown4 hgrow hat hlt4; have HP := hid (HP.out.step _ hown4 hgrow hat); clear hown4 hgrow hat hlt4)
                      | (at_builtin; refine wpList_append_lies _ rfl (.tmp 97) (.tmp 99) _ rfl W1.heap.size 9 i0 _ 1 16 Try.underlying22 hi0 hz0 hz1 hz2 rfl (by omega) _ _ _ rfl (ownsRow_ext HP.out.snd (Ext.alloc _ _)) ⟨_, 0, none⟩ 1 1 [.string t] rfl rfl (World.news_of_block (cs := #[.string t]) (t := 9) (fr := (0, 0)) (heap_alloc_new _ _)) (by simp [Value.oneCell']) (by omega) (by unfold maxLen; omega) (by omega) ((HP.out.later.alloc' _).size) _ rfl ?_; intro g2 c2 w4 hown4 hgrow hat hlt4; have HP := hid (HP.out.symm.step _ hown4 hgrow hat).symm; clear hown4 hgrow hat hlt4)
                      )
                    go_roundw
                    case rel => exact ⟨k + 1, by omega, by go_num, ⟨by rw [E1.out] <;> go_num, by rw [E2.out], by rw [E3.out]⟩, by rw [E4.out, E5.out]; exact HP.out⟩
                    case measure => simp [intOf]; omega
                | true =>
                  have E5 := hid (s9.out hpf)
                  obtain ⟨hz, z1, z2⟩ := hpre_parts hpf
                  cases hcf : cov s t with
                  | false =>
                    have E4 := hid (s8.out hcf)
                    rw [hcf] at HCv
                    clear s7 s8 s9 s10 hcf hpf
                    go_wp2_with (first
                      | (go_at_call 22; refine (HCv.out _).mono ?_; rintro e w' ⟨rfl, rfl⟩)
                      | (at_builtin; refine wpList_append_lies _ rfl (.tmp 80) (.tmp 82) _ rfl W1.heap.size 9 i0 _ 1 16 Try.underlying22 hi0 hz0 hz1 hz2 rfl (by omega) _ _ _ rfl (ownsRow_ext HP.out.fst (Ext.alloc _ _)) ⟨_, 0, none⟩ 1 1 [.string t] rfl rfl (World.news_of_block (cs := #[.string t]) (t := 9) (fr := (0, 0)) (heap_alloc_new _ _)) (by simp [Value.oneCell']) (by omega) (by unfold maxLen; omega) (by omega) ((HP.out.later.alloc' _).size) _ rfl ?_; intro g2 c2 w4 hown4 hgrow hat hlt4; have HP := hid (HP.out.step _ hown4 hgrow hat); clear hown4 hgrow hat hlt4)
                      | (at_builtin; refine wpList_append_lies _ rfl (.tmp 97) (.tmp 99) _ rfl W1.heap.size 9 i0 _ 1 16 Try.underlying22 hi0 hz0 hz1 hz2 rfl (by omega) _ _ _ rfl (ownsRow_ext HP.out.snd (Ext.alloc _ _)) ⟨_, 0, none⟩ 1 1 [.string t] rfl rfl (World.news_of_block (cs := #[.string t]) (t := 9) (fr := (0, 0)) (heap_alloc_new _ _)) (by simp [Value.oneCell']) (by omega) (by unfold maxLen; omega) (by omega) ((HP.out.later.alloc' _).size) _ rfl ?_; intro g2 c2 w4 hown4 hgrow hat hlt4; have HP := hid (HP.out.symm.step _ hown4 hgrow hat).symm; clear hown4 hgrow hat hlt4)
                      )
                    go_roundw
                    case rel => exact ⟨k + 1, by omega, by go_num, ⟨by rw [E1.out] <;> go_num, by rw [E2.out], by rw [E3.out]⟩, by rw [E4.out, E5.out]; exact HP.out⟩
                    case measure => simp [intOf]; omega
                  | true =>
                    have E4 := hid (s7.out hcf)
                    rw [hcf] at HCv
                    clear s7 s8 s9 s10 hcf hpf
                    go_wp2_with (first
                      | (go_at_call 22; refine (HCv.out _).mono ?_; rintro e w' ⟨rfl, rfl⟩)
                      | (at_builtin; refine wpList_append_lies _ rfl (.tmp 80) (.tmp 82) _ rfl W1.heap.size 9 i0 _ 1 16 Try.underlying22 hi0 hz0 hz1 hz2 rfl (by omega) _ _ _ rfl (ownsRow_ext HP.out.fst (Ext.alloc _ _)) ⟨_, 0, none⟩ 1 1 [.string t] rfl rfl (World.news_of_block (cs := #[.string t]) (t := 9) (fr := (0, 0)) (heap_alloc_new _ _)) (by simp [Value.oneCell']) (by omega) (by unfold maxLen; omega) (by omega) ((HP.out.later.alloc' _).size) _ rfl ?_; intro g2 c2 w4 hown4 hgrow hat hlt4; have HP := hid (HP.out.step _ hown4 hgrow hat); clear hown4 hgrow hat hlt4)
                      | (at_builtin; refine wpList_append_lies _ rfl (.tmp 97) (.tmp 99) _ rfl W1.heap.size 9 i0 _ 1 16 Try.underlying22 hi0 hz0 hz1 hz2 rfl (by omega) _ _ _ rfl (ownsRow_ext HP.out.snd (Ext.alloc _ _)) ⟨_, 0, none⟩ 1 1 [.string t] rfl rfl (World.news_of_block (cs := #[.string t]) (t := 9) (fr := (0, 0)) (heap_alloc_new _ _)) (by simp [Value.oneCell']) (by omega) (by unfold maxLen; omega) (by omega) ((HP.out.later.alloc' _).size) _ rfl ?_; intro g2 c2 w4 hown4 hgrow hat hlt4; have HP := hid (HP.out.symm.step _ hown4 hgrow hat).symm; clear hown4 hgrow hat hlt4)
                      )
                    go_roundw
                    case rel => exact ⟨k + 1, by omega, by go_num, ⟨by rw [E1.out] <;> go_num, by rw [E2.out], by rw [E3.out]⟩, by rw [E4.out, E5.out]; exact HP.out⟩
                    case measure => simp [intOf]; omega
        · obtain rfl : k = q.length := by omega
          rw [List.take_length] at *
          have HE0 := hid (HE.out.trans hP.later)
          have HSu := hid (own_strs hP.fst)
          have HSb := hid (own_strs hP.snd)
          have HNw' : Hid (∀ W, Ext wr W → Calls Try.prog 11 #[.slice (some ⟨b0, o0, none⟩) l.length c] W (RetQ (NewIdx W.heap.size q) W)) := fun W he => HNw.out W (HE0.out.trans he)
          have HNx : Hid (∀ W g R, IdxAt W g R q → Calls Try.prog 23 #[.pointer (some ⟨g, 0, none⟩), .string s] W (Ret (.tuple #[.string (nextK s q), .bool (foundK s q)]) W)) := fun W g R h => by
            have := inext_c W g R q s h (by omega) hsr.out
            rw [nextPK_eq] at this
            exact this
          have HRk : Hid (∀ W g R, IdxAt W g R q → Calls Try.prog 21 #[.pointer (some ⟨g, 0, none⟩), .string s] W (Ret (.int .i64 (lessK s q)) W)) := fun W g R h => by
            rw [lessK_rk hsr.out]
            exact rank_c W g R q s h (by omega) hsr.out
          have HU : Hid (∀ W g R, IdxAt W g R q → Calls Try.prog 25 #[.pointer (some ⟨g, 0, none⟩), .string s] W (RetQ (fun v w' => Sl w' 1 v (Strs (coverK s q))) W)) := fun W g R h => by
            have := under_any W g R q s h (by omega) hsr.out hs3.out hsz.out
            rw [underK_all hsr.out] at this
            exact this
          have HBg : Hid (∀ W g R, IdxAt W g R q → Calls Try.prog 26 #[.pointer (some ⟨g, 0, none⟩), .string s] W (RetQ (fun v w' => Sl w' 1 v (Strs (beginK s q))) W)) := fun W g R h => by
            have := begins_c W g R q s h (by omega) hsr.out (by unfold maxLen; exact hss) hsz.out
            rw [beginsK_all hsr.out] at this
            exact this
          have HAt : Hid (∀ W g R, IdxAt W g R q → Calls Try.prog 15 #[.pointer (some ⟨g, 0, none⟩), .int .i64 at_] W (Ret (atK at_ q) W)) := fun W g R h => at_c W g R q at_ h
          have HTx : Hid (∀ W u v l, Sl W 1 u (Strs l) → Sl W 1 v (Strs l) → Calls Try.prog 24 #[u, v] W (Ret (.bool true) W)) := fun W u v l h1 h2 => by
            have := texts_c W u v _ _ h1 h2
            simpa using this
          have HC : Hid (Ext wr wr) := Ext.refl _
          have lW := hP.later.size
          have HP := hid hP
          clear hP hsr hsz hs3 HNw HR HE
          generalize lessK s q = L at *
          generalize foundK s q = fd at *
          generalize nextK s q = nx at *
          generalize coverK s q = A0 at *
          generalize beginK s q = B0 at *
          by_cases hneg : 0 ≤ at_
          · obtain ⟨j, rfl⟩ : ∃ j : Nat, at_ = j := ⟨at_.toNat, by omega⟩
            unfold atK at HAt
            rw [if_pos hneg, Int.toNat_natCast] at HAt
            by_cases hj : j < q.length
            · rw [List.getElem?_eq_getElem hj] at HAt
              obtain ⟨b, hA, _, lb, hcell⟩ := x3 (by omega)
              cases hA
              have j0 := HP.out.later.cell (hcell j hj).1
              have j1 := HP.out.later.cell (hcell j hj).2
              have d1 : decide (j < q.length) = true := decide_eq_true hj
              clear hcell x3 HP
              dsimp only at HAt
              generalize q[j].name = nm at HAt j0
              generalize q[j].n = m at HAt j1
              have hs : (nm.toList == nm.toList) = true := by simp
              go_wp2_with (first
                | (go_at_call 11; refine (HNw'.out _ HC.out).mono ?_; rintro e w2 ⟨d, rfl, hd, hx⟩; obtain ⟨g, R, rfl, _, _, hI⟩ := hd; have HI := hid hI; have HC := hid (HC.out.trans hx); clear hx hI)
                | (go_at_call 23; refine (HNx.out _ _ _ HI.out).mono ?_; rintro e w3 ⟨rfl, hx⟩; have HI := hid (HI.out.ext hx); have HC := hid (HC.out.trans hx); clear hx)
                | (go_at_call 15; refine (HAt.out _ _ _ HI.out).mono ?_; rintro e w4 ⟨rfl, hx⟩; have HI := hid (HI.out.ext hx); have HC := hid (HC.out.trans hx); clear hx; (have y0 := HC.out.cell j0; have y1 := HC.out.cell j1; have ly : b < w4.heap.size := Nat.lt_of_lt_of_le lb (Nat.le_trans lW HC.out.size)))
                | (go_at_call 12; refine (awake_c _).mono ?_; rintro e w5 ⟨rfl, hx⟩; have HI := hid (HI.out.ext hx); have HC := hid (HC.out.trans hx); clear hx)
                | (go_at_call 21; refine (HRk.out _ _ _ HI.out).mono ?_; rintro e w6 ⟨rfl, hx⟩; have HI := hid (HI.out.ext hx); have HC := hid (HC.out.trans hx); clear hx)
                | (go_at_call 25; refine (HU.out _ _ _ HI.out).mono ?_; rintro e w7 ⟨vu, rfl, hv, hx⟩; have HI := hid (HI.out.ext hx); have HC := hid (HC.out.trans hx); have HTU := hid (And.intro hv (HSu.out.ext HC.out)); clear hx hv)
                | (go_at_call 24; refine (HTx.out _ _ _ _ HTU.out.1 HTU.out.2).mono ?_; rintro e w8 ⟨rfl, hx⟩; have HI := hid (HI.out.ext hx); have HC := hid (HC.out.trans hx); clear hx HTU)
                | (go_at_call 26; refine (HBg.out _ _ _ HI.out).mono ?_; rintro e w9 ⟨vb, rfl, hv, hx⟩; have HI := hid (HI.out.ext hx); have HC := hid (HC.out.trans hx); have HTU := hid (And.intro hv (HSb.out.ext HC.out)); clear hx hv)
                )
              go_ret
              exact ⟨rfl, HE0.out.trans HC.out⟩
            · rw [List.getElem?_eq_none (by omega)] at HAt
              dsimp only at HAt
              have d1 : decide (j < q.length) = false := decide_eq_false hj
              clear x3 HP hneg
              go_wp2_with (first
                | (go_at_call 11; refine (HNw'.out _ HC.out).mono ?_; rintro e w2 ⟨d, rfl, hd, hx⟩; obtain ⟨g, R, rfl, _, _, hI⟩ := hd; have HI := hid hI; have HC := hid (HC.out.trans hx); clear hx hI)
                | (go_at_call 23; refine (HNx.out _ _ _ HI.out).mono ?_; rintro e w3 ⟨rfl, hx⟩; have HI := hid (HI.out.ext hx); have HC := hid (HC.out.trans hx); clear hx)
                | (go_at_call 15; refine (HAt.out _ _ _ HI.out).mono ?_; rintro e w4 ⟨rfl, hx⟩; have HI := hid (HI.out.ext hx); have HC := hid (HC.out.trans hx); clear hx; skip)
                | (go_at_call 12; refine (awake_c _).mono ?_; rintro e w5 ⟨rfl, hx⟩; have HI := hid (HI.out.ext hx); have HC := hid (HC.out.trans hx); clear hx)
                | (go_at_call 21; refine (HRk.out _ _ _ HI.out).mono ?_; rintro e w6 ⟨rfl, hx⟩; have HI := hid (HI.out.ext hx); have HC := hid (HC.out.trans hx); clear hx)
                | (go_at_call 25; refine (HU.out _ _ _ HI.out).mono ?_; rintro e w7 ⟨vu, rfl, hv, hx⟩; have HI := hid (HI.out.ext hx); have HC := hid (HC.out.trans hx); have HTU := hid (And.intro hv (HSu.out.ext HC.out)); clear hx hv)
                | (go_at_call 24; refine (HTx.out _ _ _ _ HTU.out.1 HTU.out.2).mono ?_; rintro e w8 ⟨rfl, hx⟩; have HI := hid (HI.out.ext hx); have HC := hid (HC.out.trans hx); clear hx HTU)
                | (go_at_call 26; refine (HBg.out _ _ _ HI.out).mono ?_; rintro e w9 ⟨vb, rfl, hv, hx⟩; have HI := hid (HI.out.ext hx); have HC := hid (HC.out.trans hx); have HTU := hid (And.intro hv (HSb.out.ext HC.out)); clear hx hv)
                )
              go_ret
              exact ⟨rfl, HE0.out.trans HC.out⟩
          · unfold atK at HAt
            rw [if_neg hneg] at HAt
            have d1 : decide ((0 : Int) ≤ at_) = false := decide_eq_false hneg
            clear x3 HP hneg
            go_wp2_with (first
              | (go_at_call 11; refine (HNw'.out _ HC.out).mono ?_; rintro e w2 ⟨d, rfl, hd, hx⟩; obtain ⟨g, R, rfl, _, _, hI⟩ := hd; have HI := hid hI; have HC := hid (HC.out.trans hx); clear hx hI)
              | (go_at_call 23; refine (HNx.out _ _ _ HI.out).mono ?_; rintro e w3 ⟨rfl, hx⟩; have HI := hid (HI.out.ext hx); have HC := hid (HC.out.trans hx); clear hx)
              | (go_at_call 15; refine (HAt.out _ _ _ HI.out).mono ?_; rintro e w4 ⟨rfl, hx⟩; have HI := hid (HI.out.ext hx); have HC := hid (HC.out.trans hx); clear hx; skip)
              | (go_at_call 12; refine (awake_c _).mono ?_; rintro e w5 ⟨rfl, hx⟩; have HI := hid (HI.out.ext hx); have HC := hid (HC.out.trans hx); clear hx)
              | (go_at_call 21; refine (HRk.out _ _ _ HI.out).mono ?_; rintro e w6 ⟨rfl, hx⟩; have HI := hid (HI.out.ext hx); have HC := hid (HC.out.trans hx); clear hx)
              | (go_at_call 25; refine (HU.out _ _ _ HI.out).mono ?_; rintro e w7 ⟨vu, rfl, hv, hx⟩; have HI := hid (HI.out.ext hx); have HC := hid (HC.out.trans hx); have HTU := hid (And.intro hv (HSu.out.ext HC.out)); clear hx hv)
              | (go_at_call 24; refine (HTx.out _ _ _ _ HTU.out.1 HTU.out.2).mono ?_; rintro e w8 ⟨rfl, hx⟩; have HI := hid (HI.out.ext hx); have HC := hid (HC.out.trans hx); clear hx HTU)
              | (go_at_call 26; refine (HBg.out _ _ _ HI.out).mono ?_; rintro e w9 ⟨vb, rfl, hv, hx⟩; have HI := hid (HI.out.ext hx); have HC := hid (HC.out.trans hx); have HTU := hid (And.intro hv (HSb.out.ext HC.out)); clear hx hv)
              )
            go_ret
            exact ⟨rfl, HE0.out.trans HC.out⟩
end Go.Proofs.Ytfoafookodldfaa
