/-
  lighteragelaw42.IndexDoes: its walk.
-/
import Derived.Test.YtfoafookodldfaaIdxZ
import Derived.Test.YtfoafookodldfaaIdxI
namespace Go.Proofs.Ytfoafookodldfaa
set_option linter.unusedSimpArgs false
set_option linter.unusedVariables false
open Go.RowKit




set_option maxRecDepth 100000 in
set_option maxHeartbeats 4000000 in
theorem idoes_walk (w : World) (A : Option Addr) (c : Nat) (l : List ByteArray) (B : Option Addr) (d : Nat) (acts : List ActI) (hl : l.length ≤ 30) (hlc : l.length ≤ c) (hm : c ≤ maxLen) (hsl : Sl w 1 (.slice A l.length c) (Strs l))
    (hc : 0 < l.length → ∃ b o, A = some ⟨b, o, none⟩ ∧ b < w.heap.size ∧ ∀ k (h : k < l.length), w.cell? ⟨b, o + k, none⟩ = some (.string l[k]))
    (hod : acts.length ≤ d) (hdm : d ≤ maxLen) (ho : 0 < acts.length → ∃ b o, B = some ⟨b, o, none⟩ ∧ b < w.heap.size ∧ ∀ k (h : k < acts.length), w.cell? ⟨b, o + k * 3, none⟩ = some (.int .i64 acts[k].kind) ∧ w.cell? ⟨b, o + k * 3 + 1, none⟩ = some (.int .i64 acts[k].n) ∧ w.cell? ⟨b, o + k * 3 + 2, none⟩ = some (.string acts[k].s)) :
    Calls Try.prog 4 #[.slice A l.length c, .slice B acts.length d] w (Ret (.bool true) w) := by
  unfold maxLen at hm hdm
  go_enter Try.func4, Try.ntmps4
  go_wp2_with fail
  go_loopw [5, 6] (fun v i wr => ∃ k : Nat, k ≤ l.length ∧ i = .int .i64 k ∧ Ext w wr ∧ RowAt w.heap.size (newUpTo l k) v wr) (fun _ i _ => l.length - (intOf i).toNat)
  case atStart => exact ⟨0, by omega, rfl, Ext.refl _, RowAt.nil _ _⟩
  case round =>
    obtain ⟨k, hk, rfl, hE, hR⟩ := hrel
    by_cases hlt : k < l.length
    · obtain ⟨b, o, hA, hbl, hcell⟩ := hc (by omega)
      cases hA
      have c0 := hE.cell (hcell k hlt)
      have lb := Nat.lt_of_lt_of_le hbl hE.size
      have HP := hid (rput_c wr _ u5 (newUpTo l k) l[k] k hR (by have := newUpTo_length l k; omega) (newUpTo_srt l k))
      rw [← newUpTo_succ l k hlt] at HP
      have HE := hid hE
      clear hcell hc hR hE
      generalize l[k] = t at c0 HP
      by_cases h200 : 200 < t.size
      · have h2 : decide ((200 : Int) < (t.size : Int)) = true := by simp; omega
        go_wp2_with (go_at_call 12; refine (awake_c _).mono ?_; rintro e v2 ⟨rfl, z2⟩)
        go_ret
        exact ⟨rfl, HE.out.trans z2⟩
      · have h2 : decide ((200 : Int) < (t.size : Int)) = false := by simp; omega
        go_wp2_with (go_at_call 16; refine (HP.out).mono ?_; rintro e' w' ⟨v', rfl, hv', hx'⟩; have HV' := hid hv'; have HX' := hid hx'; clear hv' hx')
        go_roundw
        case rel => exact ⟨k + 1, by omega, by go_num, HE.out.trans HX'.out, HV'.out.mono HE.out.size⟩
        case measure => simp [intOf]; omega
    · obtain rfl : k = l.length := by omega
      have HNw := hid (new_c l _ wr (by omega) (hsl.ext hE))
      have HR := hid hR
      have HE := hid hE
      have hsr := hid (newUpTo_srt l l.length)
      have hlr := newUpTo_length l l.length
      generalize newUpTo l l.length = q0 at HNw HR hsr hlr
      clear hE hR hsl hc
      go_wp2_with (first
        | (go_at_call 11; refine (HNw.out).mono ?_; rintro e w2 ⟨d, rfl, hd, hx⟩; obtain ⟨g, rfl, hb⟩ := beside_new HR.out hsr.out HE.out hd hx; obtain ⟨XA, XC, hv⟩ := hb.form; subst hv; have HB0 := hid hb; clear hd hx hb)
        | (go_at_call 12; refine (awake_c _).mono ?_; rintro e v2 ⟨rfl, z2⟩; have HB := hid (HB0.out.ext z2); clear z2))
      go_loopw [5, 8] (fun x i wr => ∃ k : Nat, k ≤ acts.length ∧ k ≤ 60 ∧ i = .int .i64 k ∧ ∃ (q : List PairI) (XA : Option Addr) (XC : Nat), q.length ≤ 30 + k ∧ x = .slice XA q.length XC ∧ Beside w wr g (.slice XA q.length XC) q) (fun _ i _ => acts.length - (intOf i).toNat)
      case atStart => exact ⟨0, by omega, by omega, rfl, q0, XA, XC, by omega, rfl, HB.out⟩
      case round =>
        obtain ⟨k, hk, hk60, rfl, q, XA, XC, hq, rfl, hB⟩ := hrel
        clear HB
        have HB := hid hB
        clear hB
        by_cases q1 : k < acts.length
        · have d1 : decide (k < acts.length) = true := decide_eq_true q1
          by_cases q2 : k < 60
          · have d2 : decide ((k : Int) < 60) = true := by simp; omega
            obtain ⟨b, o, hA, lb0, hcell⟩ := ho (by omega)
            cases hA
            have c0 := HB.out.later.cell (hcell k q1).1
            have c1 := HB.out.later.cell (hcell k q1).2.1
            have c2 := HB.out.later.cell (hcell k q1).2.2
            have lb := Nat.lt_of_lt_of_le lb0 HB.out.later.size
            clear hcell ho lb0
            generalize acts[k].kind = kd at c0
            generalize acts[k].n = nn at c1
            generalize acts[k].s = s at c2
            by_cases h200 : 200 < s.size
            · have h2 : decide ((200 : Int) < (s.size : Int)) = true := by simp; omega
              go_wp2_with fail
              go_roundw
              case rel => exact ⟨k + 1, by omega, by omega, by go_num, q, XA, XC, by omega, rfl, HB.out.ext (Ext.alloc _ _)⟩
              case measure => simp [intOf]; omega
            · have h2 : decide ((200 : Int) < (s.size : Int)) = false := by simp; omega
              have HF : Hid (∀ W, Ext wr W → Calls Try.prog 17 #[.slice XA q.length XC, .string s] W (Ret (.int .i64 (rfindK s q)) W)) := fun W he => (HB.out.ext he).find s
              cases hk' : hasK s q with
              | true =>
                obtain ⟨hr, hg, hz⟩ := getV_yes hk'
                have hz0 : decide ((0 : Int) ≤ rfindK s q) = true := by rw [hz]; simp
                have hz1 : decide (rfindK s q < (0 : Int)) = false := by rw [hz]; simp
                by_cases hkd4 : kd = 4
                · subst hkd4
                  have HG : Hid (∀ W, Ext wr W → Calls Try.prog 20 #[.pointer (some ⟨g, 0, none⟩), .string s] W (Ret (.tuple #[.int .i64 q[rk s q].n, .bool true]) W)) := fun W he => by
                    have := (HB.out.ext he).get (by omega) s
                    rw [hg] at this
                    exact this
                  obtain ⟨A', c', e', _, hc1, k3, _⟩ := HB.out.row
                  injection e' with ea eb ec
                  subst ea
                  subst ec
                  obtain ⟨xb, rfl, _, lx, hxc⟩ := k3 (by omega)
                  have x1 := (hxc _ hr).2
                  unfold maxLen at hc1
                  rw [hz] at HF
                  clear hz0 hz1 hg hz hxc k3 eb
                  generalize q[rk s q].n = m at HG x1
                  generalize rk s q = r at HF hr x1
                  go_wp2_with (first
                    | (go_at_call 17; refine (HF.out _ (Ext.alloc _ _)).mono ?_; rintro e w1 ⟨rfl, hx⟩; have hb1 := (Blk.new wr 36 #[.int .i64 4, .int .i64 nn, .string s]).ext hx; have e0 := hb1.cell (i := 0) (v := .int .i64 4) rfl; have e1 := hb1.cell (i := 1) (v := .int .i64 nn) rfl; have e2 := hb1.cell (i := 2) (v := .string s) rfl; have lA := hb1.lt; have HB1 := hid hb1; have HX1 := hid ((Ext.alloc wr (.cells #[.int .i64 4, .int .i64 nn, .string s] 36)).trans hx); clear hx hb1)
                    | (go_at_call 20; refine (HG.out _ HX1.out).mono ?_; rintro e w2 ⟨rfl, hx⟩; have HX2 := hid (HX1.out.trans hx); have y1 := HX2.out.cell x1; have ly := Nat.lt_of_lt_of_le lx HX2.out.size; clear hx)
                    | (go_at_call 14; refine ((HB.out.ext HX2.out).len).mono ?_; rintro e w4 ⟨rfl, rfl⟩)
                    )
                  go_roundw
                  case rel => exact ⟨k + 1, by omega, by omega, by go_num, q, _, XC, by omega, rfl, HB.out.ext HX2.out⟩
                  case measure => simp [intOf]; omega
                · clear hg hz hr
                  generalize rfindK s q = z at HF hz0 hz1
                  by_cases hkd3 : kd = 3
                  · subst hkd3
                    clear hz1
                    have HD : Hid (∀ W, Ext wr W → Calls Try.prog 18 #[.pointer (some ⟨g, 0, none⟩), .string s] W (fun e w' => e = .returned (.bool true) ∧ Half w w' g (.slice XA q.length XC) q (dropK s q) ∧ ∀ b t cs, wr.heap.size ≤ b → Blk W b t cs → Blk w' b t cs)) := fun W he => by
                      have := HB.out.drop he (by omega) s
                      rw [hk'] at this
                      exact this
                    have HLn := dropK_length s q
                    generalize hq' : dropK s q = q' at HD HLn
                    go_wp2_with (first
                      | (go_at_call 17; refine (HF.out _ (Ext.alloc _ _)).mono ?_; rintro e w1 ⟨rfl, hx⟩; have hb1 := (Blk.new wr 36 #[.int .i64 3, .int .i64 nn, .string s]).ext hx; have e0 := hb1.cell (i := 0) (v := .int .i64 3) rfl; have e1 := hb1.cell (i := 1) (v := .int .i64 nn) rfl; have e2 := hb1.cell (i := 2) (v := .string s) rfl; have lA := hb1.lt; have HB1 := hid hb1; have HX1 := hid ((Ext.alloc wr (.cells #[.int .i64 3, .int .i64 nn, .string s] 36)).trans hx); clear hx hb1)
                      | (go_at_call 18; refine (HD.out _ HX1.out).mono ?_; rintro e w2 ⟨rfl, hh, hk2⟩; have hb2 := hk2 _ _ _ (Nat.le_refl _) HB1.out; have f2 := hb2.cell (i := 2) (v := .string s) rfl; have lA2 := hb2.lt; have HH := hid hh; clear hh hk2 hb2)
                      | (go_at_call 19; refine (HH.out.rdrop (by omega) s hq'.symm).mono ?_; rintro e w3 ⟨XA', XC', rfl, hb⟩; have HB3 := hid hb; clear hb)
                      | (go_at_call 14; refine (HB3.out.len).mono ?_; rintro e w4 ⟨rfl, rfl⟩)
                      )
                    go_roundw
                    case rel => exact ⟨k + 1, by omega, by omega, by go_num, q', XA', XC', by omega, rfl, HB3.out⟩
                    case measure => simp [intOf]; omega
                  · have n3 : (kd == 3) = false := by simpa using hkd3
                    have n4 : (kd == 4) = false := by simpa using hkd4
                    clear hkd3 hkd4 hz0
                    have HD : Hid (∀ W, Ext wr W → Calls Try.prog 13 #[.pointer (some ⟨g, 0, none⟩), .string s, .int .i64 nn] W (fun e w' => e = .returned (.bool !true) ∧ Half w w' g (.slice XA q.length XC) q (putK s nn q) ∧ ∀ b t cs, wr.heap.size ≤ b → Blk W b t cs → Blk w' b t cs)) := fun W he => by
                      have := HB.out.put he (by omega) s nn
                      rw [hk'] at this
                      exact this
                    have HLn := putK_length s nn q
                    generalize hq' : putK s nn q = q' at HD HLn
                    go_wp2_with (first
                      | (go_at_call 17; refine (HF.out _ (Ext.alloc _ _)).mono ?_; rintro e w1 ⟨rfl, hx⟩; have hb1 := (Blk.new wr 36 #[.int .i64 kd, .int .i64 nn, .string s]).ext hx; have e0 := hb1.cell (i := 0) (v := .int .i64 kd) rfl; have e1 := hb1.cell (i := 1) (v := .int .i64 nn) rfl; have e2 := hb1.cell (i := 2) (v := .string s) rfl; have lA := hb1.lt; have HB1 := hid hb1; have HX1 := hid ((Ext.alloc wr (.cells #[.int .i64 kd, .int .i64 nn, .string s] 36)).trans hx); clear hx hb1)
                      | (go_at_call 13; refine (HD.out _ HX1.out).mono ?_; rintro e w2 ⟨rfl, hh, hk2⟩; have hb2 := hk2 _ _ _ (Nat.le_refl _) HB1.out; have f1 := hb2.cell (i := 1) (v := .int .i64 nn) rfl; have f2 := hb2.cell (i := 2) (v := .string s) rfl; have lA2 := hb2.lt; have HH := hid hh; clear hh hk2 hb2)
                      | (go_at_call 16; refine (HH.out.rput (by omega) s nn hq'.symm).mono ?_; rintro e w3 ⟨XA', XC', rfl, hb⟩; have HB3 := hid hb; clear hb)
                      | (go_at_call 14; refine (HB3.out.len).mono ?_; rintro e w4 ⟨rfl, rfl⟩)
                      )
                    go_roundw
                    case rel => exact ⟨k + 1, by omega, by omega, by go_num, q', XA', XC', by omega, rfl, HB3.out⟩
                    case measure => simp [intOf]; omega
              | false =>
                obtain ⟨hg, hz⟩ := getV_no hk'
                have hz0 : decide ((0 : Int) ≤ rfindK s q) = false := by rw [hz]; rfl
                have hz1 : decide (rfindK s q < (0 : Int)) = true := by rw [hz]; rfl
                clear hz
                generalize rfindK s q = z at HF hz0 hz1
                by_cases hkd4 : kd = 4
                · subst hkd4
                  have HG : Hid (∀ W, Ext wr W → Calls Try.prog 20 #[.pointer (some ⟨g, 0, none⟩), .string s] W (Ret (.tuple #[.int .i64 0, .bool false]) W)) := fun W he => by
                    have := (HB.out.ext he).get (by omega) s
                    rw [hg] at this
                    exact this
                  clear hz1 hg
                  go_wp2_with (first
                    | (go_at_call 17; refine (HF.out _ (Ext.alloc _ _)).mono ?_; rintro e w1 ⟨rfl, hx⟩; have hb1 := (Blk.new wr 36 #[.int .i64 4, .int .i64 nn, .string s]).ext hx; have e0 := hb1.cell (i := 0) (v := .int .i64 4) rfl; have e1 := hb1.cell (i := 1) (v := .int .i64 nn) rfl; have e2 := hb1.cell (i := 2) (v := .string s) rfl; have lA := hb1.lt; have HB1 := hid hb1; have HX1 := hid ((Ext.alloc wr (.cells #[.int .i64 4, .int .i64 nn, .string s] 36)).trans hx); clear hx hb1)
                    | (go_at_call 20; refine (HG.out _ HX1.out).mono ?_; rintro e w2 ⟨rfl, hx⟩; have HX2 := hid (HX1.out.trans hx); clear hx)
                    | (go_at_call 14; refine ((HB.out.ext HX2.out).len).mono ?_; rintro e w4 ⟨rfl, rfl⟩)
                    )
                  go_roundw
                  case rel => exact ⟨k + 1, by omega, by omega, by go_num, q, XA, XC, by omega, rfl, HB.out.ext HX2.out⟩
                  case measure => simp [intOf]; omega
                · by_cases hkd3 : kd = 3
                  · subst hkd3
                    clear hz1
                    have HD : Hid (∀ W, Ext wr W → Calls Try.prog 18 #[.pointer (some ⟨g, 0, none⟩), .string s] W (fun e w' => e = .returned (.bool false) ∧ Half w w' g (.slice XA q.length XC) q (dropK s q) ∧ ∀ b t cs, wr.heap.size ≤ b → Blk W b t cs → Blk w' b t cs)) := fun W he => by
                      have := HB.out.drop he (by omega) s
                      rw [hk'] at this
                      exact this
                    have HLn := dropK_length s q
                    generalize hq' : dropK s q = q' at HD HLn
                    go_wp2_with (first
                      | (go_at_call 17; refine (HF.out _ (Ext.alloc _ _)).mono ?_; rintro e w1 ⟨rfl, hx⟩; have hb1 := (Blk.new wr 36 #[.int .i64 3, .int .i64 nn, .string s]).ext hx; have e0 := hb1.cell (i := 0) (v := .int .i64 3) rfl; have e1 := hb1.cell (i := 1) (v := .int .i64 nn) rfl; have e2 := hb1.cell (i := 2) (v := .string s) rfl; have lA := hb1.lt; have HB1 := hid hb1; have HX1 := hid ((Ext.alloc wr (.cells #[.int .i64 3, .int .i64 nn, .string s] 36)).trans hx); clear hx hb1)
                      | (go_at_call 18; refine (HD.out _ HX1.out).mono ?_; rintro e w2 ⟨rfl, hh, hk2⟩; have hb2 := hk2 _ _ _ (Nat.le_refl _) HB1.out; have f2 := hb2.cell (i := 2) (v := .string s) rfl; have lA2 := hb2.lt; have HH := hid hh; clear hh hk2 hb2)
                      | (go_at_call 19; refine (HH.out.rdrop (by omega) s hq'.symm).mono ?_; rintro e w3 ⟨XA', XC', rfl, hb⟩; have HB3 := hid hb; clear hb)
                      | (go_at_call 14; refine (HB3.out.len).mono ?_; rintro e w4 ⟨rfl, rfl⟩)
                      )
                    go_roundw
                    case rel => exact ⟨k + 1, by omega, by omega, by go_num, q', XA', XC', by omega, rfl, HB3.out⟩
                    case measure => simp [intOf]; omega
                  · have n3 : (kd == 3) = false := by simpa using hkd3
                    have n4 : (kd == 4) = false := by simpa using hkd4
                    clear hkd3 hkd4 hz0
                    have HD : Hid (∀ W, Ext wr W → Calls Try.prog 13 #[.pointer (some ⟨g, 0, none⟩), .string s, .int .i64 nn] W (fun e w' => e = .returned (.bool !false) ∧ Half w w' g (.slice XA q.length XC) q (putK s nn q) ∧ ∀ b t cs, wr.heap.size ≤ b → Blk W b t cs → Blk w' b t cs)) := fun W he => by
                      have := HB.out.put he (by omega) s nn
                      rw [hk'] at this
                      exact this
                    have HLn := putK_length s nn q
                    generalize hq' : putK s nn q = q' at HD HLn
                    go_wp2_with (first
                      | (go_at_call 17; refine (HF.out _ (Ext.alloc _ _)).mono ?_; rintro e w1 ⟨rfl, hx⟩; have hb1 := (Blk.new wr 36 #[.int .i64 kd, .int .i64 nn, .string s]).ext hx; have e0 := hb1.cell (i := 0) (v := .int .i64 kd) rfl; have e1 := hb1.cell (i := 1) (v := .int .i64 nn) rfl; have e2 := hb1.cell (i := 2) (v := .string s) rfl; have lA := hb1.lt; have HB1 := hid hb1; have HX1 := hid ((Ext.alloc wr (.cells #[.int .i64 kd, .int .i64 nn, .string s] 36)).trans hx); clear hx hb1)
                      | (go_at_call 13; refine (HD.out _ HX1.out).mono ?_; rintro e w2 ⟨rfl, hh, hk2⟩; have hb2 := hk2 _ _ _ (Nat.le_refl _) HB1.out; have f1 := hb2.cell (i := 1) (v := .int .i64 nn) rfl; have f2 := hb2.cell (i := 2) (v := .string s) rfl; have lA2 := hb2.lt; have HH := hid hh; clear hh hk2 hb2)
                      | (go_at_call 16; refine (HH.out.rput (by omega) s nn hq'.symm).mono ?_; rintro e w3 ⟨XA', XC', rfl, hb⟩; have HB3 := hid hb; clear hb)
                      | (go_at_call 14; refine (HB3.out.len).mono ?_; rintro e w4 ⟨rfl, rfl⟩)
                      )
                    go_roundw
                    case rel => exact ⟨k + 1, by omega, by omega, by go_num, q', XA', XC', by omega, rfl, HB3.out⟩
                    case measure => simp [intOf]; omega
          · have d2 : decide ((k : Int) < 60) = false := by simp; omega
            clear q1 q2
            go_wp2_with fail
            go_loopw [14] (fun i wr => ∃ k : Nat, k ≤ q.length ∧ i = .int .i64 k ∧ Beside w wr g (.slice XA q.length XC) q) (fun i _ => q.length - (intOf i).toNat)
            case atStart => exact ⟨0, by omega, rfl, HB.out⟩
            case round =>
              obtain ⟨k, hk, rfl, hB⟩ := hrel
              clear HB
              by_cases hlt : k < q.length
              · have HA := hid (hB.at_ k hlt)
                have HR : Hid (∀ W, Ext wr W → Calls Try.prog 21 #[.pointer (some ⟨g, 0, none⟩), .string q[k].name] W (Ret (.int .i64 k) W)) := fun W he => (hB.ext he).rank (by omega) k hlt
                obtain ⟨A', c', e', _, _, k3, _⟩ := hB.row
                injection e' with e1 e2 e3
                subst e1
                subst e3
                obtain ⟨b, rfl, _, lb, hcell⟩ := k3 (by omega)
                obtain ⟨c0, c1⟩ := hcell k hlt
                have HB := hid hB
                clear hB hcell k3 e2
                generalize q[k].name = nm at HA HR c0
                generalize q[k].n = m at HA c1
                have hs : (nm.toList == nm.toList) = true := by simp
                go_wp2_with (first
                  | (go_at_call 15; refine (HA.out).mono ?_; rintro e w1 ⟨rfl, hx⟩; have d0 := hx.cell c0; have d1 := hx.cell c1; have lb1 := Nat.lt_of_lt_of_le lb hx.size; have HX := hid hx; clear hx)
                  | (go_at_call 21; refine (HR.out _ HX.out).mono ?_; rintro e w2 ⟨rfl, hy⟩; have HY := hid hy; clear hy))
                go_roundw
                case rel => exact ⟨k + 1, by omega, by go_num, (HB.out.ext HX.out).ext HY.out⟩
                case measure => simp [intOf]; omega
              · obtain rfl : k = q.length := by omega
                have HB := hid hB
                clear hB
                go_wp2_with fail
                go_ret
                exact ⟨rfl, HB.out.later⟩
        · have d1 : decide (k < acts.length) = false := decide_eq_false q1
          clear q1
          go_wp2_with fail
          go_loopw [14] (fun i wr => ∃ k : Nat, k ≤ q.length ∧ i = .int .i64 k ∧ Beside w wr g (.slice XA q.length XC) q) (fun i _ => q.length - (intOf i).toNat)
          case atStart => exact ⟨0, by omega, rfl, HB.out⟩
          case round =>
            obtain ⟨k, hk, rfl, hB⟩ := hrel
            clear HB
            by_cases hlt : k < q.length
            · have HA := hid (hB.at_ k hlt)
              have HR : Hid (∀ W, Ext wr W → Calls Try.prog 21 #[.pointer (some ⟨g, 0, none⟩), .string q[k].name] W (Ret (.int .i64 k) W)) := fun W he => (hB.ext he).rank (by omega) k hlt
              obtain ⟨A', c', e', _, _, k3, _⟩ := hB.row
              injection e' with e1 e2 e3
              subst e1
              subst e3
              obtain ⟨b, rfl, _, lb, hcell⟩ := k3 (by omega)
              obtain ⟨c0, c1⟩ := hcell k hlt
              have HB := hid hB
              clear hB hcell k3 e2
              generalize q[k].name = nm at HA HR c0
              generalize q[k].n = m at HA c1
              have hs : (nm.toList == nm.toList) = true := by simp
              go_wp2_with (first
                | (go_at_call 15; refine (HA.out).mono ?_; rintro e w1 ⟨rfl, hx⟩; have d0 := hx.cell c0; have d1 := hx.cell c1; have lb1 := Nat.lt_of_lt_of_le lb hx.size; have HX := hid hx; clear hx)
                | (go_at_call 21; refine (HR.out _ HX.out).mono ?_; rintro e w2 ⟨rfl, hy⟩; have HY := hid hy; clear hy))
              go_roundw
              case rel => exact ⟨k + 1, by omega, by go_num, (HB.out.ext HX.out).ext HY.out⟩
              case measure => simp [intOf]; omega
            · obtain rfl : k = q.length := by omega
              have HB := hid hB
              clear hB
              go_wp2_with fail
              go_ret
              exact ⟨rfl, HB.out.later⟩
set_option maxRecDepth 100000 in
set_option maxHeartbeats 4000000 in
theorem idoes_walk_long (w : World) (b0 o0 N c : Nat) (l : List ByteArray) (B : Option Addr) (d : Nat) (acts : List ActI) (hN : 30 < N) (hL : l.length = 30) (hlc : N ≤ c) (hm : c ≤ maxLen) (hsl : Sl w 1 (.slice (some ⟨b0, o0, none⟩) l.length c) (Strs l))
    (hc : 0 < l.length → ∃ b o, (some ⟨b0, o0, none⟩ : Option Addr) = some ⟨b, o, none⟩ ∧ b < w.heap.size ∧ ∀ k (h : k < l.length), w.cell? ⟨b, o + k, none⟩ = some (.string l[k]))
    (hod : acts.length ≤ d) (hdm : d ≤ maxLen) (ho : 0 < acts.length → ∃ b o, B = some ⟨b, o, none⟩ ∧ b < w.heap.size ∧ ∀ k (h : k < acts.length), w.cell? ⟨b, o + k * 3, none⟩ = some (.int .i64 acts[k].kind) ∧ w.cell? ⟨b, o + k * 3 + 1, none⟩ = some (.int .i64 acts[k].n) ∧ w.cell? ⟨b, o + k * 3 + 2, none⟩ = some (.string acts[k].s)) :
    Calls Try.prog 4 #[.slice (some ⟨b0, o0, none⟩) N c, .slice B acts.length d] w (Ret (.bool true) w) := by
  have hl : l.length ≤ 30 := by omega
  have d0 : decide ((30 : Int) < (N : Int)) = true := by simp; omega
  unfold maxLen at hm hdm
  go_enter Try.func4, Try.ntmps4
  go_wp2_with fail
  have hv : Value.slice (some ⟨b0, o0, none⟩) 30 c = Value.slice (some ⟨b0, o0, none⟩) l.length c := by rw [hL]
  rw [hv]
  clear hv hL hN d0
  go_loopw [5, 6] (fun v i wr => ∃ k : Nat, k ≤ l.length ∧ i = .int .i64 k ∧ Ext w wr ∧ RowAt w.heap.size (newUpTo l k) v wr) (fun _ i _ => l.length - (intOf i).toNat)
  case atStart => exact ⟨0, by omega, rfl, Ext.refl _, RowAt.nil _ _⟩
  case round =>
    obtain ⟨k, hk, rfl, hE, hR⟩ := hrel
    by_cases hlt : k < l.length
    · obtain ⟨b, o, hA, hbl, hcell⟩ := hc (by omega)
      cases hA
      have c0 := hE.cell (hcell k hlt)
      have lb := Nat.lt_of_lt_of_le hbl hE.size
      have HP := hid (rput_c wr _ u5 (newUpTo l k) l[k] k hR (by have := newUpTo_length l k; omega) (newUpTo_srt l k))
      rw [← newUpTo_succ l k hlt] at HP
      have HE := hid hE
      clear hcell hc hR hE
      generalize l[k] = t at c0 HP
      by_cases h200 : 200 < t.size
      · have h2 : decide ((200 : Int) < (t.size : Int)) = true := by simp; omega
        go_wp2_with (go_at_call 12; refine (awake_c _).mono ?_; rintro e v2 ⟨rfl, z2⟩)
        go_ret
        exact ⟨rfl, HE.out.trans z2⟩
      · have h2 : decide ((200 : Int) < (t.size : Int)) = false := by simp; omega
        go_wp2_with (go_at_call 16; refine (HP.out).mono ?_; rintro e' w' ⟨v', rfl, hv', hx'⟩; have HV' := hid hv'; have HX' := hid hx'; clear hv' hx')
        go_roundw
        case rel => exact ⟨k + 1, by omega, by go_num, HE.out.trans HX'.out, HV'.out.mono HE.out.size⟩
        case measure => simp [intOf]; omega
    · obtain rfl : k = l.length := by omega
      have HNw := hid (new_c l _ wr (by omega) (hsl.ext hE))
      have HR := hid hR
      have HE := hid hE
      have hsr := hid (newUpTo_srt l l.length)
      have hlr := newUpTo_length l l.length
      generalize newUpTo l l.length = q0 at HNw HR hsr hlr
      clear hE hR hsl hc
      go_wp2_with (first
        | (go_at_call 11; refine (HNw.out).mono ?_; rintro e w2 ⟨d, rfl, hd, hx⟩; obtain ⟨g, rfl, hb⟩ := beside_new HR.out hsr.out HE.out hd hx; obtain ⟨XA, XC, hv⟩ := hb.form; subst hv; have HB0 := hid hb; clear hd hx hb)
        | (go_at_call 12; refine (awake_c _).mono ?_; rintro e v2 ⟨rfl, z2⟩; have HB := hid (HB0.out.ext z2); clear z2))
      go_loopw [5, 8] (fun x i wr => ∃ k : Nat, k ≤ acts.length ∧ k ≤ 60 ∧ i = .int .i64 k ∧ ∃ (q : List PairI) (XA : Option Addr) (XC : Nat), q.length ≤ 30 + k ∧ x = .slice XA q.length XC ∧ Beside w wr g (.slice XA q.length XC) q) (fun _ i _ => acts.length - (intOf i).toNat)
      case atStart => exact ⟨0, by omega, by omega, rfl, q0, XA, XC, by omega, rfl, HB.out⟩
      case round =>
        obtain ⟨k, hk, hk60, rfl, q, XA, XC, hq, rfl, hB⟩ := hrel
        clear HB
        have HB := hid hB
        clear hB
        by_cases q1 : k < acts.length
        · have d1 : decide (k < acts.length) = true := decide_eq_true q1
          by_cases q2 : k < 60
          · have d2 : decide ((k : Int) < 60) = true := by simp; omega
            obtain ⟨b, o, hA, lb0, hcell⟩ := ho (by omega)
            cases hA
            have c0 := HB.out.later.cell (hcell k q1).1
            have c1 := HB.out.later.cell (hcell k q1).2.1
            have c2 := HB.out.later.cell (hcell k q1).2.2
            have lb := Nat.lt_of_lt_of_le lb0 HB.out.later.size
            clear hcell ho lb0
            generalize acts[k].kind = kd at c0
            generalize acts[k].n = nn at c1
            generalize acts[k].s = s at c2
            by_cases h200 : 200 < s.size
            · have h2 : decide ((200 : Int) < (s.size : Int)) = true := by simp; omega
              go_wp2_with fail
              go_roundw
              case rel => exact ⟨k + 1, by omega, by omega, by go_num, q, XA, XC, by omega, rfl, HB.out.ext (Ext.alloc _ _)⟩
              case measure => simp [intOf]; omega
            · have h2 : decide ((200 : Int) < (s.size : Int)) = false := by simp; omega
              have HF : Hid (∀ W, Ext wr W → Calls Try.prog 17 #[.slice XA q.length XC, .string s] W (Ret (.int .i64 (rfindK s q)) W)) := fun W he => (HB.out.ext he).find s
              cases hk' : hasK s q with
              | true =>
                obtain ⟨hr, hg, hz⟩ := getV_yes hk'
                have hz0 : decide ((0 : Int) ≤ rfindK s q) = true := by rw [hz]; simp
                have hz1 : decide (rfindK s q < (0 : Int)) = false := by rw [hz]; simp
                by_cases hkd4 : kd = 4
                · subst hkd4
                  have HG : Hid (∀ W, Ext wr W → Calls Try.prog 20 #[.pointer (some ⟨g, 0, none⟩), .string s] W (Ret (.tuple #[.int .i64 q[rk s q].n, .bool true]) W)) := fun W he => by
                    have := (HB.out.ext he).get (by omega) s
                    rw [hg] at this
                    exact this
                  obtain ⟨A', c', e', _, hc1, k3, _⟩ := HB.out.row
                  injection e' with ea eb ec
                  subst ea
                  subst ec
                  obtain ⟨xb, rfl, _, lx, hxc⟩ := k3 (by omega)
                  have x1 := (hxc _ hr).2
                  unfold maxLen at hc1
                  rw [hz] at HF
                  clear hz0 hz1 hg hz hxc k3 eb
                  generalize q[rk s q].n = m at HG x1
                  generalize rk s q = r at HF hr x1
                  go_wp2_with (first
                    | (go_at_call 17; refine (HF.out _ (Ext.alloc _ _)).mono ?_; rintro e w1 ⟨rfl, hx⟩; have hb1 := (Blk.new wr 36 #[.int .i64 4, .int .i64 nn, .string s]).ext hx; have e0 := hb1.cell (i := 0) (v := .int .i64 4) rfl; have e1 := hb1.cell (i := 1) (v := .int .i64 nn) rfl; have e2 := hb1.cell (i := 2) (v := .string s) rfl; have lA := hb1.lt; have HB1 := hid hb1; have HX1 := hid ((Ext.alloc wr (.cells #[.int .i64 4, .int .i64 nn, .string s] 36)).trans hx); clear hx hb1)
                    | (go_at_call 20; refine (HG.out _ HX1.out).mono ?_; rintro e w2 ⟨rfl, hx⟩; have HX2 := hid (HX1.out.trans hx); have y1 := HX2.out.cell x1; have ly := Nat.lt_of_lt_of_le lx HX2.out.size; clear hx)
                    | (go_at_call 14; refine ((HB.out.ext HX2.out).len).mono ?_; rintro e w4 ⟨rfl, rfl⟩)
                    )
                  go_roundw
                  case rel => exact ⟨k + 1, by omega, by omega, by go_num, q, _, XC, by omega, rfl, HB.out.ext HX2.out⟩
                  case measure => simp [intOf]; omega
                · clear hg hz hr
                  generalize rfindK s q = z at HF hz0 hz1
                  by_cases hkd3 : kd = 3
                  · subst hkd3
                    clear hz1
                    have HD : Hid (∀ W, Ext wr W → Calls Try.prog 18 #[.pointer (some ⟨g, 0, none⟩), .string s] W (fun e w' => e = .returned (.bool true) ∧ Half w w' g (.slice XA q.length XC) q (dropK s q) ∧ ∀ b t cs, wr.heap.size ≤ b → Blk W b t cs → Blk w' b t cs)) := fun W he => by
                      have := HB.out.drop he (by omega) s
                      rw [hk'] at this
                      exact this
                    have HLn := dropK_length s q
                    generalize hq' : dropK s q = q' at HD HLn
                    go_wp2_with (first
                      | (go_at_call 17; refine (HF.out _ (Ext.alloc _ _)).mono ?_; rintro e w1 ⟨rfl, hx⟩; have hb1 := (Blk.new wr 36 #[.int .i64 3, .int .i64 nn, .string s]).ext hx; have e0 := hb1.cell (i := 0) (v := .int .i64 3) rfl; have e1 := hb1.cell (i := 1) (v := .int .i64 nn) rfl; have e2 := hb1.cell (i := 2) (v := .string s) rfl; have lA := hb1.lt; have HB1 := hid hb1; have HX1 := hid ((Ext.alloc wr (.cells #[.int .i64 3, .int .i64 nn, .string s] 36)).trans hx); clear hx hb1)
                      | (go_at_call 18; refine (HD.out _ HX1.out).mono ?_; rintro e w2 ⟨rfl, hh, hk2⟩; have hb2 := hk2 _ _ _ (Nat.le_refl _) HB1.out; have f2 := hb2.cell (i := 2) (v := .string s) rfl; have lA2 := hb2.lt; have HH := hid hh; clear hh hk2 hb2)
                      | (go_at_call 19; refine (HH.out.rdrop (by omega) s hq'.symm).mono ?_; rintro e w3 ⟨XA', XC', rfl, hb⟩; have HB3 := hid hb; clear hb)
                      | (go_at_call 14; refine (HB3.out.len).mono ?_; rintro e w4 ⟨rfl, rfl⟩)
                      )
                    go_roundw
                    case rel => exact ⟨k + 1, by omega, by omega, by go_num, q', XA', XC', by omega, rfl, HB3.out⟩
                    case measure => simp [intOf]; omega
                  · have n3 : (kd == 3) = false := by simpa using hkd3
                    have n4 : (kd == 4) = false := by simpa using hkd4
                    clear hkd3 hkd4 hz0
                    have HD : Hid (∀ W, Ext wr W → Calls Try.prog 13 #[.pointer (some ⟨g, 0, none⟩), .string s, .int .i64 nn] W (fun e w' => e = .returned (.bool !true) ∧ Half w w' g (.slice XA q.length XC) q (putK s nn q) ∧ ∀ b t cs, wr.heap.size ≤ b → Blk W b t cs → Blk w' b t cs)) := fun W he => by
                      have := HB.out.put he (by omega) s nn
                      rw [hk'] at this
                      exact this
                    have HLn := putK_length s nn q
                    generalize hq' : putK s nn q = q' at HD HLn
                    go_wp2_with (first
                      | (go_at_call 17; refine (HF.out _ (Ext.alloc _ _)).mono ?_; rintro e w1 ⟨rfl, hx⟩; have hb1 := (Blk.new wr 36 #[.int .i64 kd, .int .i64 nn, .string s]).ext hx; have e0 := hb1.cell (i := 0) (v := .int .i64 kd) rfl; have e1 := hb1.cell (i := 1) (v := .int .i64 nn) rfl; have e2 := hb1.cell (i := 2) (v := .string s) rfl; have lA := hb1.lt; have HB1 := hid hb1; have HX1 := hid ((Ext.alloc wr (.cells #[.int .i64 kd, .int .i64 nn, .string s] 36)).trans hx); clear hx hb1)
                      | (go_at_call 13; refine (HD.out _ HX1.out).mono ?_; rintro e w2 ⟨rfl, hh, hk2⟩; have hb2 := hk2 _ _ _ (Nat.le_refl _) HB1.out; have f1 := hb2.cell (i := 1) (v := .int .i64 nn) rfl; have f2 := hb2.cell (i := 2) (v := .string s) rfl; have lA2 := hb2.lt; have HH := hid hh; clear hh hk2 hb2)
                      | (go_at_call 16; refine (HH.out.rput (by omega) s nn hq'.symm).mono ?_; rintro e w3 ⟨XA', XC', rfl, hb⟩; have HB3 := hid hb; clear hb)
                      | (go_at_call 14; refine (HB3.out.len).mono ?_; rintro e w4 ⟨rfl, rfl⟩)
                      )
                    go_roundw
                    case rel => exact ⟨k + 1, by omega, by omega, by go_num, q', XA', XC', by omega, rfl, HB3.out⟩
                    case measure => simp [intOf]; omega
              | false =>
                obtain ⟨hg, hz⟩ := getV_no hk'
                have hz0 : decide ((0 : Int) ≤ rfindK s q) = false := by rw [hz]; rfl
                have hz1 : decide (rfindK s q < (0 : Int)) = true := by rw [hz]; rfl
                clear hz
                generalize rfindK s q = z at HF hz0 hz1
                by_cases hkd4 : kd = 4
                · subst hkd4
                  have HG : Hid (∀ W, Ext wr W → Calls Try.prog 20 #[.pointer (some ⟨g, 0, none⟩), .string s] W (Ret (.tuple #[.int .i64 0, .bool false]) W)) := fun W he => by
                    have := (HB.out.ext he).get (by omega) s
                    rw [hg] at this
                    exact this
                  clear hz1 hg
                  go_wp2_with (first
                    | (go_at_call 17; refine (HF.out _ (Ext.alloc _ _)).mono ?_; rintro e w1 ⟨rfl, hx⟩; have hb1 := (Blk.new wr 36 #[.int .i64 4, .int .i64 nn, .string s]).ext hx; have e0 := hb1.cell (i := 0) (v := .int .i64 4) rfl; have e1 := hb1.cell (i := 1) (v := .int .i64 nn) rfl; have e2 := hb1.cell (i := 2) (v := .string s) rfl; have lA := hb1.lt; have HB1 := hid hb1; have HX1 := hid ((Ext.alloc wr (.cells #[.int .i64 4, .int .i64 nn, .string s] 36)).trans hx); clear hx hb1)
                    | (go_at_call 20; refine (HG.out _ HX1.out).mono ?_; rintro e w2 ⟨rfl, hx⟩; have HX2 := hid (HX1.out.trans hx); clear hx)
                    | (go_at_call 14; refine ((HB.out.ext HX2.out).len).mono ?_; rintro e w4 ⟨rfl, rfl⟩)
                    )
                  go_roundw
                  case rel => exact ⟨k + 1, by omega, by omega, by go_num, q, XA, XC, by omega, rfl, HB.out.ext HX2.out⟩
                  case measure => simp [intOf]; omega
                · by_cases hkd3 : kd = 3
                  · subst hkd3
                    clear hz1
                    have HD : Hid (∀ W, Ext wr W → Calls Try.prog 18 #[.pointer (some ⟨g, 0, none⟩), .string s] W (fun e w' => e = .returned (.bool false) ∧ Half w w' g (.slice XA q.length XC) q (dropK s q) ∧ ∀ b t cs, wr.heap.size ≤ b → Blk W b t cs → Blk w' b t cs)) := fun W he => by
                      have := HB.out.drop he (by omega) s
                      rw [hk'] at this
                      exact this
                    have HLn := dropK_length s q
                    generalize hq' : dropK s q = q' at HD HLn
                    go_wp2_with (first
                      | (go_at_call 17; refine (HF.out _ (Ext.alloc _ _)).mono ?_; rintro e w1 ⟨rfl, hx⟩; have hb1 := (Blk.new wr 36 #[.int .i64 3, .int .i64 nn, .string s]).ext hx; have e0 := hb1.cell (i := 0) (v := .int .i64 3) rfl; have e1 := hb1.cell (i := 1) (v := .int .i64 nn) rfl; have e2 := hb1.cell (i := 2) (v := .string s) rfl; have lA := hb1.lt; have HB1 := hid hb1; have HX1 := hid ((Ext.alloc wr (.cells #[.int .i64 3, .int .i64 nn, .string s] 36)).trans hx); clear hx hb1)
                      | (go_at_call 18; refine (HD.out _ HX1.out).mono ?_; rintro e w2 ⟨rfl, hh, hk2⟩; have hb2 := hk2 _ _ _ (Nat.le_refl _) HB1.out; have f2 := hb2.cell (i := 2) (v := .string s) rfl; have lA2 := hb2.lt; have HH := hid hh; clear hh hk2 hb2)
                      | (go_at_call 19; refine (HH.out.rdrop (by omega) s hq'.symm).mono ?_; rintro e w3 ⟨XA', XC', rfl, hb⟩; have HB3 := hid hb; clear hb)
                      | (go_at_call 14; refine (HB3.out.len).mono ?_; rintro e w4 ⟨rfl, rfl⟩)
                      )
                    go_roundw
                    case rel => exact ⟨k + 1, by omega, by omega, by go_num, q', XA', XC', by omega, rfl, HB3.out⟩
                    case measure => simp [intOf]; omega
                  · have n3 : (kd == 3) = false := by simpa using hkd3
                    have n4 : (kd == 4) = false := by simpa using hkd4
                    clear hkd3 hkd4 hz0
                    have HD : Hid (∀ W, Ext wr W → Calls Try.prog 13 #[.pointer (some ⟨g, 0, none⟩), .string s, .int .i64 nn] W (fun e w' => e = .returned (.bool !false) ∧ Half w w' g (.slice XA q.length XC) q (putK s nn q) ∧ ∀ b t cs, wr.heap.size ≤ b → Blk W b t cs → Blk w' b t cs)) := fun W he => by
                      have := HB.out.put he (by omega) s nn
                      rw [hk'] at this
                      exact this
                    have HLn := putK_length s nn q
                    generalize hq' : putK s nn q = q' at HD HLn
                    go_wp2_with (first
                      | (go_at_call 17; refine (HF.out _ (Ext.alloc _ _)).mono ?_; rintro e w1 ⟨rfl, hx⟩; have hb1 := (Blk.new wr 36 #[.int .i64 kd, .int .i64 nn, .string s]).ext hx; have e0 := hb1.cell (i := 0) (v := .int .i64 kd) rfl; have e1 := hb1.cell (i := 1) (v := .int .i64 nn) rfl; have e2 := hb1.cell (i := 2) (v := .string s) rfl; have lA := hb1.lt; have HB1 := hid hb1; have HX1 := hid ((Ext.alloc wr (.cells #[.int .i64 kd, .int .i64 nn, .string s] 36)).trans hx); clear hx hb1)
                      | (go_at_call 13; refine (HD.out _ HX1.out).mono ?_; rintro e w2 ⟨rfl, hh, hk2⟩; have hb2 := hk2 _ _ _ (Nat.le_refl _) HB1.out; have f1 := hb2.cell (i := 1) (v := .int .i64 nn) rfl; have f2 := hb2.cell (i := 2) (v := .string s) rfl; have lA2 := hb2.lt; have HH := hid hh; clear hh hk2 hb2)
                      | (go_at_call 16; refine (HH.out.rput (by omega) s nn hq'.symm).mono ?_; rintro e w3 ⟨XA', XC', rfl, hb⟩; have HB3 := hid hb; clear hb)
                      | (go_at_call 14; refine (HB3.out.len).mono ?_; rintro e w4 ⟨rfl, rfl⟩)
                      )
                    go_roundw
                    case rel => exact ⟨k + 1, by omega, by omega, by go_num, q', XA', XC', by omega, rfl, HB3.out⟩
                    case measure => simp [intOf]; omega
          · have d2 : decide ((k : Int) < 60) = false := by simp; omega
            clear q1 q2
            go_wp2_with fail
            go_loopw [14] (fun i wr => ∃ k : Nat, k ≤ q.length ∧ i = .int .i64 k ∧ Beside w wr g (.slice XA q.length XC) q) (fun i _ => q.length - (intOf i).toNat)
            case atStart => exact ⟨0, by omega, rfl, HB.out⟩
            case round =>
              obtain ⟨k, hk, rfl, hB⟩ := hrel
              clear HB
              by_cases hlt : k < q.length
              · have HA := hid (hB.at_ k hlt)
                have HR : Hid (∀ W, Ext wr W → Calls Try.prog 21 #[.pointer (some ⟨g, 0, none⟩), .string q[k].name] W (Ret (.int .i64 k) W)) := fun W he => (hB.ext he).rank (by omega) k hlt
                obtain ⟨A', c', e', _, _, k3, _⟩ := hB.row
                injection e' with e1 e2 e3
                subst e1
                subst e3
                obtain ⟨b, rfl, _, lb, hcell⟩ := k3 (by omega)
                obtain ⟨c0, c1⟩ := hcell k hlt
                have HB := hid hB
                clear hB hcell k3 e2
                generalize q[k].name = nm at HA HR c0
                generalize q[k].n = m at HA c1
                have hs : (nm.toList == nm.toList) = true := by simp
                go_wp2_with (first
                  | (go_at_call 15; refine (HA.out).mono ?_; rintro e w1 ⟨rfl, hx⟩; have d0 := hx.cell c0; have d1 := hx.cell c1; have lb1 := Nat.lt_of_lt_of_le lb hx.size; have HX := hid hx; clear hx)
                  | (go_at_call 21; refine (HR.out _ HX.out).mono ?_; rintro e w2 ⟨rfl, hy⟩; have HY := hid hy; clear hy))
                go_roundw
                case rel => exact ⟨k + 1, by omega, by go_num, (HB.out.ext HX.out).ext HY.out⟩
                case measure => simp [intOf]; omega
              · obtain rfl : k = q.length := by omega
                have HB := hid hB
                clear hB
                go_wp2_with fail
                go_ret
                exact ⟨rfl, HB.out.later⟩
        · have d1 : decide (k < acts.length) = false := decide_eq_false q1
          clear q1
          go_wp2_with fail
          go_loopw [14] (fun i wr => ∃ k : Nat, k ≤ q.length ∧ i = .int .i64 k ∧ Beside w wr g (.slice XA q.length XC) q) (fun i _ => q.length - (intOf i).toNat)
          case atStart => exact ⟨0, by omega, rfl, HB.out⟩
          case round =>
            obtain ⟨k, hk, rfl, hB⟩ := hrel
            clear HB
            by_cases hlt : k < q.length
            · have HA := hid (hB.at_ k hlt)
              have HR : Hid (∀ W, Ext wr W → Calls Try.prog 21 #[.pointer (some ⟨g, 0, none⟩), .string q[k].name] W (Ret (.int .i64 k) W)) := fun W he => (hB.ext he).rank (by omega) k hlt
              obtain ⟨A', c', e', _, _, k3, _⟩ := hB.row
              injection e' with e1 e2 e3
              subst e1
              subst e3
              obtain ⟨b, rfl, _, lb, hcell⟩ := k3 (by omega)
              obtain ⟨c0, c1⟩ := hcell k hlt
              have HB := hid hB
              clear hB hcell k3 e2
              generalize q[k].name = nm at HA HR c0
              generalize q[k].n = m at HA c1
              have hs : (nm.toList == nm.toList) = true := by simp
              go_wp2_with (first
                | (go_at_call 15; refine (HA.out).mono ?_; rintro e w1 ⟨rfl, hx⟩; have d0 := hx.cell c0; have d1 := hx.cell c1; have lb1 := Nat.lt_of_lt_of_le lb hx.size; have HX := hid hx; clear hx)
                | (go_at_call 21; refine (HR.out _ HX.out).mono ?_; rintro e w2 ⟨rfl, hy⟩; have HY := hid hy; clear hy))
              go_roundw
              case rel => exact ⟨k + 1, by omega, by go_num, (HB.out.ext HX.out).ext HY.out⟩
              case measure => simp [intOf]; omega
            · obtain rfl : k = q.length := by omega
              have HB := hid hB
              clear hB
              go_wp2_with fail
              go_ret
              exact ⟨rfl, HB.out.later⟩
end Go.Proofs.Ytfoafookodldfaa
