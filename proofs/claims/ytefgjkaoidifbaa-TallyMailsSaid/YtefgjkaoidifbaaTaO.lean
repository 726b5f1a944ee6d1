/-
  The law TallyMails: its walk.
-/
import Derived.Test.YtefgjkaoidifbaaTaS
import Derived.Test.YtefgjkaoidifbaaTaQ
namespace Go.Proofs.Ytefgjkaoidifbaa
set_option linter.unusedSimpArgs false
set_option linter.unusedVariables false
open Go.RowKit Go.Maps

set_option maxRecDepth 100000 in
set_option maxHeartbeats 4000000 in
theorem mails_walk (w : World) (A : Option Addr) (c : Nat) (l : List MailI) (hs : Sl w 3 (.slice A l.length c) (l.map MailI.cells)) (hl : l.length ≤ 100) (hok : ∀ m ∈ l, okK m.to_ ∧ m.s.size ≤ maxLen) : Calls Try.prog 4 #[.slice A l.length c] w (Ret (.bool true) w) := by
  have HB := hid hs
  have HOk := hid hok
  obtain ⟨A', c', hA, h1, h2, h3⟩ := sl_get hs
  cases hA
  unfold maxLen at h2
  clear hs hok
  go_enter Try.func4, Try.ntmps4
  go_wp2_with fail
  go_loopw [3, 4, 5, 6] (fun va vb vm vi wr => ∃ (k : Nat) (best most : Int), k ≤ l.length ∧ vi = .int .i64 k ∧ va = .int .i64 (sumAll (l.take k)) ∧ vb = .int .i64 best ∧ vm = .int .i64 most ∧ MInv l k best most ∧ (∀ m ∈ l.take k, m.s.size ≤ 1000) ∧ Ext w wr) (fun _ _ _ i _ => l.length - (intOf i).toNat)
  case atStart => exact ⟨0, 0, -1, by omega, rfl, rfl, rfl, rfl, MInv.start l, by simp, Ext.refl _⟩
  case round =>
    obtain ⟨k, best, most, hk, rfl, rfl, rfl, rfl, hM, hSm, hE⟩ := hrel
    have HE := hid hE
    by_cases hlt : k < l.length
    · obtain ⟨b, o, rfl, lb, hcell⟩ := h3 (by omega)
      have c1 := hE.cell (hcell k hlt 1 _ rfl)
      have c2 := hE.cell (hcell k hlt 2 _ rfl)
      have lbr := Nat.lt_of_lt_of_le lb hE.size
      by_cases hbig : 1000 < l[k].s.size
      · have d1 : decide ((1000 : Int) < (l[k].s.size : Int)) = true := by simp; omega
        clear hE hcell h3 hM hSm hbig HB
        generalize l[k] = z at c1 c2 d1
        go_wp2_with (go_at_call 21; refine (awake38_c _).mono ?_; rintro e w7 ⟨rfl, hx⟩; have HX := hid hx; clear hx)
        go_ret
        exact ⟨rfl, HE.out.trans HX.out⟩
      · have d1 : decide ((1000 : Int) < (l[k].s.size : Int)) = false := by simp; omega
        have HT : Hid (sumAll (l.take (k + 1)) = sumAll (l.take k) + l[k].s.size) := by unfold Hid; rw [List.take_succ_eq_append_getElem hlt, sumAll_snoc]
        have HSk : Hid (∀ m ∈ l.take (k + 1), m.s.size ≤ 1000) := fun m hm => by
          rw [List.take_succ_eq_append_getElem hlt] at hm
          rcases List.mem_append.1 hm with hm | hm
          · exact hSm m hm
          · rw [List.mem_singleton.1 hm]; omega
        have hb := sumAll_take k hl hSm
        have hz : l[k].s.size ≤ 1000 := by omega
        have HY := fun n (h1 : Small l → n = sumTo l l[k].to_) h2 => hid (hM.yes hlt h1 h2)
        have HN := fun n (h1 : Small l → n = sumTo l l[k].to_) h2 => hid (hM.no hlt h1 h2)
        have HS0 : Hid (∀ (j : Nat) (hj : j < l.length) n, (Small l → n = sumTo (l.take j) l[k].to_) → (l[j].to_ = l[k].to_ → Small l → wrap64 (n + l[j].s.size) = sumTo (l.take (j + 1)) l[k].to_) ∧ (¬ l[j].to_ = l[k].to_ → Small l → n = sumTo (l.take (j + 1)) l[k].to_)) := fun j hj n hn => ⟨fun he => sumTo_step j hj _ n hn he, fun he => sumTo_skip j hj _ n hn he⟩
        have HB2 := hid hcell
        clear hE hcell h3 hM hSm hbig
        generalize l[k] = z at c1 c2 d1 HT HY HN HS0 hz
        generalize sumAll (l.take k) = s at HT hb ⊢
        go_wp2_with fail
        go_loopw [7, 8] (fun vn vj wi => ∃ (j : Nat) (n : Int), j ≤ l.length ∧ vj = .int .i64 j ∧ vn = .int .i64 n ∧ (Small l → n = sumTo (l.take j) z.to_) ∧ Ext wr wi) (fun _ j _ => l.length - (intOf j).toNat)
        case atStart => exact ⟨0, 0, by omega, rfl, rfl, (fun _ => rfl), Ext.refl _⟩
        case round =>
          obtain ⟨j, n, hj, rfl, rfl, hn, hE2⟩ := hrel
          have HE2 := hid hE2
          have e1 := hE2.cell c1
          have e2 := hE2.cell c2
          have lbi := Nat.lt_of_lt_of_le lbr hE2.size
          clear c1 c2
          by_cases hjl : j < l.length
          · have f1 := (HE.out.trans hE2).cell (HB2.out j hjl 1 _ rfl)
            have f2 := (HE.out.trans hE2).cell (HB2.out j hjl 2 _ rfl)
            obtain ⟨hs1, hs2⟩ := HS0.out j hjl n hn
            clear hE2 hn
            generalize l[j] = y at f1 f2 hs1 hs2
            by_cases he : y.to_ = z.to_
            · have d2 : (y.to_ == z.to_) = true := by simp [he]
              have HS1 := hid (hs1 he)
              clear hs1 hs2 he
              go_wp2_with fail
              go_quiet (fail)
              go_wp2_with fail
              exact ⟨⟨j + 1, _, by omega, by go_num, rfl, HS1.out, HE2.out.drewN' _⟩, by simp [intOf]; omega⟩
            · have d2 : (y.to_ == z.to_) = false := by simp [he]
              have HS1 := hid (hs2 he)
              clear hs1 hs2 he
              go_wp2_with fail
              go_quiet (fail)
              go_wp2_with fail
              exact ⟨⟨j + 1, n, by omega, by go_num, rfl, HS1.out, HE2.out.drewN' _⟩, by simp [intOf]; omega⟩
          · obtain rfl : j = l.length := by omega
            rw [List.take_length] at hn
            have HY1 := hid (HY n hn)
            have HN1 := hid (HN n hn)
            clear hE2 hn HY HN HS0
            by_cases p1 : most < n
            · have q1 : decide (most < n) = true := decide_eq_true p1
              have HR := hid (HY1.out (.inl p1)).out
              clear p1
              go_wp2_with fail
              go_roundw
              case rel => exact ⟨k + 1, _, _, by omega, by go_num, by rw [HT.out], rfl, rfl, HR.out, HSk.out, HE.out.trans HE2.out⟩
              case measure => simp [intOf]; omega
            · have q1 : decide (most < n) = false := decide_eq_false p1
              by_cases p2 : n = most
              · by_cases p3 : z.to_ < best
                · have q3 : decide (z.to_ < best) = true := decide_eq_true p3
                  have HR := hid (HY1.out (.inr ⟨p2, p3⟩)).out
                  clear p1 p3
                  subst p2
                  go_wp2_with fail
                  go_roundw
                  case rel => exact ⟨k + 1, _, _, by omega, by go_num, by rw [HT.out], rfl, rfl, HR.out, HSk.out, HE.out.trans HE2.out⟩
                  case measure => simp [intOf]; omega
                · have q3 : decide (z.to_ < best) = false := decide_eq_false p3
                  have HR := hid (HN1.out (by omega)).out
                  clear p1 p3
                  subst p2
                  go_wp2_with fail
                  go_roundw
                  case rel => exact ⟨k + 1, _, _, by omega, by go_num, by rw [HT.out], rfl, rfl, HR.out, HSk.out, HE.out.trans HE2.out⟩
                  case measure => simp [intOf]; omega
              · have q2 : (n == most) = false := by simp [p2]
                have HR := hid (HN1.out (by omega)).out
                clear p1 p2
                go_wp2_with fail
                go_roundw
                case rel => exact ⟨k + 1, _, _, by omega, by go_num, by rw [HT.out], rfl, rfl, HR.out, HSk.out, HE.out.trans HE2.out⟩
                case measure => simp [intOf]; omega
    · obtain rfl : k = l.length := by omega
      have hsm := small_all hl hSm
      have HMo := hid (hM.done hsm)
      rw [List.take_length]
      have HBu := hid (busiest_c wr _ l (HB.out.ext hE) hsm (fun m hm => (HOk.out m hm).1))
      have HBy := fun W (hW : Ext wr W) => hid (bytes_c W _ l (HB.out.ext (hE.trans hW)) hsm)
      clear hE hM hSm h3 hsm
      go_wp2_with (go_at_call 22; refine (HBu.out).mono ?_; rintro e w2 ⟨p, rfl, hp, hx2⟩; obtain rfl := hp.eq HMo.out; have HX2 := hid hx2; clear hx2 hp)
      have HBy := hid HBy
      skip
      go_wp2_with (first
        | (go_at_call 21; refine (awake38_c _).mono ?_; rintro e w5 ⟨rfl, hx5⟩; have HX5 := hid (HX2.out.trans hx5); clear hx5)
        | (go_at_call 23; refine (HBy.out _ HX5.out).out.mono ?_; rintro e w6 ⟨rfl, hx6⟩; have HX6 := hid (HX5.out.trans hx6); clear hx6)
        | (go_at_call 24; refine (high_c _ _ _).mono ?_; rintro e w7 ⟨rfl, hx7⟩; have HX7 := hid (HX6.out.trans hx7); clear hx7))
      go_ret
      exact ⟨rfl, HE.out.trans HX7.out⟩
set_option maxRecDepth 100000 in
set_option maxHeartbeats 4000000 in
theorem mails_long (w : World) (b0 o0 N c : Nat) (A : Option Addr) (hBd : A = some ⟨b0, o0, none⟩) (l : List MailI) (hs : Sl w 3 (.slice A l.length c) (l.map MailI.cells)) (hN : 100 < N) (hNc : N ≤ c) (hL : l.length = 100) (hok : ∀ m ∈ l, okK m.to_ ∧ m.s.size ≤ maxLen) : Calls Try.prog 4 #[.slice (some ⟨b0, o0, none⟩) N c] w (Ret (.bool true) w) := by
  have hl : l.length ≤ 100 := by omega
  have HB := hid hs
  have HOk := hid hok
  obtain ⟨A', c', hA, h1, h2, h3⟩ := sl_get hs
  cases hA
  unfold maxLen at h2
  have d0 : decide ((100 : Int) < (N : Int)) = true := by simp; omega
  have HVV := hid (show Value.slice (some ⟨b0, o0, none⟩) 100 c = Value.slice A l.length c by rw [hL, hBd])
  clear hs hok hL hBd
  go_enter Try.func4, Try.ntmps4
  go_wp2_with fail
  rw [HVV.out]
  clear HVV d0 hN hNc
  go_loopw [3, 4, 5, 6] (fun va vb vm vi wr => ∃ (k : Nat) (best most : Int), k ≤ l.length ∧ vi = .int .i64 k ∧ va = .int .i64 (sumAll (l.take k)) ∧ vb = .int .i64 best ∧ vm = .int .i64 most ∧ MInv l k best most ∧ (∀ m ∈ l.take k, m.s.size ≤ 1000) ∧ Ext w wr) (fun _ _ _ i _ => l.length - (intOf i).toNat)
  case atStart => exact ⟨0, 0, -1, by omega, rfl, rfl, rfl, rfl, MInv.start l, by simp, Ext.refl _⟩
  case round =>
    obtain ⟨k, best, most, hk, rfl, rfl, rfl, rfl, hM, hSm, hE⟩ := hrel
    have HE := hid hE
    by_cases hlt : k < l.length
    · obtain ⟨b, o, rfl, lb, hcell⟩ := h3 (by omega)
      have c1 := hE.cell (hcell k hlt 1 _ rfl)
      have c2 := hE.cell (hcell k hlt 2 _ rfl)
      have lbr := Nat.lt_of_lt_of_le lb hE.size
      by_cases hbig : 1000 < l[k].s.size
      · have d1 : decide ((1000 : Int) < (l[k].s.size : Int)) = true := by simp; omega
        clear hE hcell h3 hM hSm hbig HB
        generalize l[k] = z at c1 c2 d1
        go_wp2_with (go_at_call 21; refine (awake38_c _).mono ?_; rintro e w7 ⟨rfl, hx⟩; have HX := hid hx; clear hx)
        go_ret
        exact ⟨rfl, HE.out.trans HX.out⟩
      · have d1 : decide ((1000 : Int) < (l[k].s.size : Int)) = false := by simp; omega
        have HT : Hid (sumAll (l.take (k + 1)) = sumAll (l.take k) + l[k].s.size) := by unfold Hid; rw [List.take_succ_eq_append_getElem hlt, sumAll_snoc]
        have HSk : Hid (∀ m ∈ l.take (k + 1), m.s.size ≤ 1000) := fun m hm => by
          rw [List.take_succ_eq_append_getElem hlt] at hm
          rcases List.mem_append.1 hm with hm | hm
          · exact hSm m hm
          · rw [List.mem_singleton.1 hm]; omega
        have hb := sumAll_take k hl hSm
        have hz : l[k].s.size ≤ 1000 := by omega
        have HY := fun n (h1 : Small l → n = sumTo l l[k].to_) h2 => hid (hM.yes hlt h1 h2)
        have HN := fun n (h1 : Small l → n = sumTo l l[k].to_) h2 => hid (hM.no hlt h1 h2)
        have HS0 : Hid (∀ (j : Nat) (hj : j < l.length) n, (Small l → n = sumTo (l.take j) l[k].to_) → (l[j].to_ = l[k].to_ → Small l → wrap64 (n + l[j].s.size) = sumTo (l.take (j + 1)) l[k].to_) ∧ (¬ l[j].to_ = l[k].to_ → Small l → n = sumTo (l.take (j + 1)) l[k].to_)) := fun j hj n hn => ⟨fun he => sumTo_step j hj _ n hn he, fun he => sumTo_skip j hj _ n hn he⟩
        have HB2 := hid hcell
        clear hE hcell h3 hM hSm hbig
        generalize l[k] = z at c1 c2 d1 HT HY HN HS0 hz
        generalize sumAll (l.take k) = s at HT hb ⊢
        go_wp2_with fail
        go_loopw [7, 8] (fun vn vj wi => ∃ (j : Nat) (n : Int), j ≤ l.length ∧ vj = .int .i64 j ∧ vn = .int .i64 n ∧ (Small l → n = sumTo (l.take j) z.to_) ∧ Ext wr wi) (fun _ j _ => l.length - (intOf j).toNat)
        case atStart => exact ⟨0, 0, by omega, rfl, rfl, (fun _ => rfl), Ext.refl _⟩
        case round =>
          obtain ⟨j, n, hj, rfl, rfl, hn, hE2⟩ := hrel
          have HE2 := hid hE2
          have e1 := hE2.cell c1
          have e2 := hE2.cell c2
          have lbi := Nat.lt_of_lt_of_le lbr hE2.size
          clear c1 c2
          by_cases hjl : j < l.length
          · have f1 := (HE.out.trans hE2).cell (HB2.out j hjl 1 _ rfl)
            have f2 := (HE.out.trans hE2).cell (HB2.out j hjl 2 _ rfl)
            obtain ⟨hs1, hs2⟩ := HS0.out j hjl n hn
            clear hE2 hn
            generalize l[j] = y at f1 f2 hs1 hs2
            by_cases he : y.to_ = z.to_
            · have d2 : (y.to_ == z.to_) = true := by simp [he]
              have HS1 := hid (hs1 he)
              clear hs1 hs2 he
              go_wp2_with fail
              go_quiet (fail)
              go_wp2_with fail
              exact ⟨⟨j + 1, _, by omega, by go_num, rfl, HS1.out, HE2.out.drewN' _⟩, by simp [intOf]; omega⟩
            · have d2 : (y.to_ == z.to_) = false := by simp [he]
              have HS1 := hid (hs2 he)
              clear hs1 hs2 he
              go_wp2_with fail
              go_quiet (fail)
              go_wp2_with fail
              exact ⟨⟨j + 1, n, by omega, by go_num, rfl, HS1.out, HE2.out.drewN' _⟩, by simp [intOf]; omega⟩
          · obtain rfl : j = l.length := by omega
            rw [List.take_length] at hn
            have HY1 := hid (HY n hn)
            have HN1 := hid (HN n hn)
            clear hE2 hn HY HN HS0
            by_cases p1 : most < n
            · have q1 : decide (most < n) = true := decide_eq_true p1
              have HR := hid (HY1.out (.inl p1)).out
              clear p1
              go_wp2_with fail
              go_roundw
              case rel => exact ⟨k + 1, _, _, by omega, by go_num, by rw [HT.out], rfl, rfl, HR.out, HSk.out, HE.out.trans HE2.out⟩
              case measure => simp [intOf]; omega
            · have q1 : decide (most < n) = false := decide_eq_false p1
              by_cases p2 : n = most
              · by_cases p3 : z.to_ < best
                · have q3 : decide (z.to_ < best) = true := decide_eq_true p3
                  have HR := hid (HY1.out (.inr ⟨p2, p3⟩)).out
                  clear p1 p3
                  subst p2
                  go_wp2_with fail
                  go_roundw
                  case rel => exact ⟨k + 1, _, _, by omega, by go_num, by rw [HT.out], rfl, rfl, HR.out, HSk.out, HE.out.trans HE2.out⟩
                  case measure => simp [intOf]; omega
                · have q3 : decide (z.to_ < best) = false := decide_eq_false p3
                  have HR := hid (HN1.out (by omega)).out
                  clear p1 p3
                  subst p2
                  go_wp2_with fail
                  go_roundw
                  case rel => exact ⟨k + 1, _, _, by omega, by go_num, by rw [HT.out], rfl, rfl, HR.out, HSk.out, HE.out.trans HE2.out⟩
                  case measure => simp [intOf]; omega
              · have q2 : (n == most) = false := by simp [p2]
                have HR := hid (HN1.out (by omega)).out
                clear p1 p2
                go_wp2_with fail
                go_roundw
                case rel => exact ⟨k + 1, _, _, by omega, by go_num, by rw [HT.out], rfl, rfl, HR.out, HSk.out, HE.out.trans HE2.out⟩
                case measure => simp [intOf]; omega
    · obtain rfl : k = l.length := by omega
      have hsm := small_all hl hSm
      have HMo := hid (hM.done hsm)
      rw [List.take_length]
      have HBu := hid (busiest_c wr _ l (HB.out.ext hE) hsm (fun m hm => (HOk.out m hm).1))
      have HBy := fun W (hW : Ext wr W) => hid (bytes_c W _ l (HB.out.ext (hE.trans hW)) hsm)
      clear hE hM hSm h3 hsm
      go_wp2_with (go_at_call 22; refine (HBu.out).mono ?_; rintro e w2 ⟨p, rfl, hp, hx2⟩; obtain rfl := hp.eq HMo.out; have HX2 := hid hx2; clear hx2 hp)
      have HBy := hid HBy
      skip
      go_wp2_with (first
        | (go_at_call 21; refine (awake38_c _).mono ?_; rintro e w5 ⟨rfl, hx5⟩; have HX5 := hid (HX2.out.trans hx5); clear hx5)
        | (go_at_call 23; refine (HBy.out _ HX5.out).out.mono ?_; rintro e w6 ⟨rfl, hx6⟩; have HX6 := hid (HX5.out.trans hx6); clear hx6)
        | (go_at_call 24; refine (high_c _ _ _).mono ?_; rintro e w7 ⟨rfl, hx7⟩; have HX7 := hid (HX6.out.trans hx7); clear hx7))
      go_ret
      exact ⟨rfl, HE.out.trans HX7.out⟩
theorem mails_any (w : World) (v : Value) (l : List MailI) (hs : Sl w 3 v (l.map MailI.cells)) (hok : ∀ m ∈ l, okK m.to_ ∧ m.s.size ≤ maxLen) : Calls Try.prog 4 #[v] w (Ret (.bool true) w) := by
  obtain ⟨A, c, rfl, h1, h2, h3⟩ := sl_get hs
  by_cases hl : l.length ≤ 100
  · exact mails_walk w A c l hs hl hok
  · obtain ⟨b, o, rfl, _, _⟩ := h3 (by omega)
    have hlen : (l.take 100).length = 100 := by rw [List.length_take]; omega
    refine mails_long w b o l.length c _ rfl (l.take 100) ?_ (by omega) h1 hlen fun m hm => hok m (List.mem_of_mem_take hm)
    rw [hlen, List.map_take]
    exact sl_take hs (by omega)
end Go.Proofs.Ytefgjkaoidifbaa
