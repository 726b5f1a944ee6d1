/-
  pack.parts of versions (written by gen_parts.py).
-/
import Derived.Test.YtanflgipdiogaaaVcKk
import Derived.Test.YtanflgipdiogaaaVcIk
namespace Go.Proofs.Ytanflgipdiogaaa
set_option linter.unusedSimpArgs false
set_option linter.unusedVariables false
open Go.RowKit

set_option maxRecDepth 100000 in
set_option maxHeartbeats 8000000 in
theorem partsV_c (w : World) (s : ByteArray) (hs : s.size ≤ 90000) (enc : Ver → ByteArray) (ok : Ver → Prop) (hone : ∀ W t, t.size ≤ s.size → Ext w W → Calls Try.prog 29 #[.string t] W (fun en w' => ∃ (x : Ver) (e : Int), en = .returned (.tuple #[.agg #[.int .i64 x.by_, .int .i64 x.n], .int .i64 e]) ∧ okVer x ∧ Ext W w' ∧ ∀ x0, ok x0 → t = enc x0 → x = x0 ∧ e = 0)) : Calls Try.prog 28 #[.string s, .func (.func 29) #[] #[]] w (fun en w' => ∃ (v : Value) (b : Bool) (l : List Ver), en = .returned (.tuple #[v, .bool b]) ∧ RowAt Ver.cells 2 l v w' ∧ l.length ≤ s.size ∧ (∀ x ∈ l, okVer x) ∧ Ext w w' ∧ ∀ l0 : List Ver, (∀ x ∈ l0, ok x) → l0.length ≤ 90000 → s = listB enc l0 → l = l0) := by
  have HO := fun W => hid (over_c W s)
  have HN := fun W q (h' : InAt W q s 0) => hid (n_c W q s 0 h' (by omega))
  have HT := fun W q (s' : ByteArray) (e' : Int) (h' : InAt W q s' e') (hs' : s'.size ≤ s.size) => hid (t_c W q s' e' h' (by omega))
  have HEnd := fun W q (s' : ByteArray) (e' : Int) (h' : InAt W q s' e') => hid (end_c W q s' e' h')
  have HOne := hid hone
  clear hone
  go_enter Try.func28, Try.ntmps28
  go_wp2_with fail
  refine ((HO _).out).mono ?_
  rintro en w1 ⟨v, rfl, ⟨q, rfl, hq, hI⟩, x1⟩
  have HI1 := hid hI
  have HE1 := hid x1
  have HQ := hid hq
  clear hI x1 hq HO
  go_wp2_with fail
  refine ((HN _ _ HI1.out).out).mono ?_
  rintro en w2 ⟨n, s2, e2, rfl, hn, k2, h2, hs2, r2⟩
  have HI2 := hid h2
  have HE2 : Hid (Ext w w2) := Ext.of_below (((Keep.of_ext (S := fun g => g = q) HE1.out).trans k2).below (Nat.le_refl _) fun k hk => by have := HQ.out; omega)
  have HS2 := hid hs2
  have HB : Hid (∀ l0 : List Ver, s = listB enc l0 → l0.length ≤ 90000 → n = l0.length ∧ l0.length ≤ s.size ∧ s2.data.toList = encL (l0.map (fun x => fT (enc x))) ∧ e2 = 0) := fun l0 a0 a1 => by
    have a2 : s.data.toList = lebL l0.length ++ encL (l0.map (fun x => fT (enc x))) := by
      rw [a0]
      show encL (fN l0.length :: l0.map (fun x => fT (enc x))) = _
      rw [encL_cons]; rfl
    obtain ⟨b1, b2, b3⟩ := r2 l0.length _ rfl (by omega) a2
    refine ⟨b1, ?_, b2, b3⟩
    have c1 : s.data.toList.length = s.size := by rw [Array.length_toList]; rfl
    rw [a2, List.length_append] at c1
    have := encT_ge enc l0
    omega
  clear k2 h2 r2 hs2 HI1 HE1 HN
  by_cases hbig : (s.size : Int) < n
  · have d0 : decide ((s.size : Int) < n) = true := decide_eq_true hbig
    have d0' : decide (s.size < n) = true := decide_eq_true (by omega)
    have HD : Hid (∀ l0 : List Ver, (∀ x ∈ l0, ok x) → l0.length ≤ 90000 → s = listB enc l0 → [] = l0) := fun l0 _ a1 a2 => by
      obtain ⟨b1, b2, _⟩ := HB.out l0 a2 a1
      exfalso; omega
    clear hbig HB HT HEnd HOne
    go_wp2_with fail
    go_ret2
    exact ⟨_, _, [], rfl, RowAt.nil _, Nat.zero_le _, fun x hx => (by cases hx), HE2.out, HD.out⟩
  · have d0 : decide ((s.size : Int) < n) = false := decide_eq_false hbig
    have d0' : decide (s.size < n) = false := decide_eq_false (by omega)
    have hn9 : n ≤ s.size := by omega
    clear hbig hn
    go_wp2_with fail
    go_loopw [8, 20] (fun s8 s20 wr => ∃ (k : Nat) (ov : Value) (l : List Ver) (s' : ByteArray) (e' : Int), ov = s8 ∧ k ≤ n ∧ s20 = .int .i64 k ∧ l.length = k ∧ Hid (Ext w wr) ∧ Hid (InAt wr q s' e') ∧ Hid (s'.size ≤ s.size) ∧ Hid (∀ x ∈ l, okVer x) ∧ Hid (l.length = 0 → s8 = .slice none 0 0) ∧ Hid (wr.ownsRow (q + 1) 43 2 s8 l.length (l.map Ver.cells).flatten) ∧ Hid (∀ l0 : List Ver, (∀ x ∈ l0, ok x) → s = listB enc l0 → l0.length ≤ 90000 → n = l0.length ∧ l = l0.take k ∧ s'.data.toList = encL ((l0.drop k).map (fun x => fT (enc x))) ∧ e' = 0)) (fun _ s20 _ => n - (intOf s20).toNat)
    case atStart => exact ⟨0, _, [], s2, e2, rfl, by omega, rfl, rfl, HE2, HI2, HS2, fun x hx => (by cases hx), fun _ => rfl, ownsRow_nil _ _ _ _, fun l0 a0 a1 a2 => by
      obtain ⟨b1, b2, b3, b4⟩ := HB.out l0 a1 a2
      exact ⟨b1, rfl, b3, b4⟩⟩
    case round =>
      obtain ⟨k, s8, l, s', e', rfl, hk, rfl, hlen, hE, hI, hS, hG, hZ, hO, hB⟩ := hrel
      clear HE2 HI2 HS2 HB
      by_cases hlt : k < n
      · have d1 : decide ((k : Int) < n) = true := decide_eq_true (by omega)
        have d1' : decide (k < n) = true := decide_eq_true hlt
        have hn9' := hid hn9
        have hln := hid hlen
        have hlt' := hid hlt
        clear hlen hlt
        go_wp2_with fail
        refine ((HT _ _ _ _ hI.out hS.out).out).mono ?_
        rintro en w3 ⟨t, s3, e3, rfl, ht, k3, h3, hs3, r3⟩
        have hI3 := hid h3
        have hE3 : Hid (Ext w w3) := Ext.of_below (((Keep.of_ext (S := fun g => g = q) hE.out).trans k3).below (Nat.le_refl _) fun k hk => by have := HQ.out; omega)
        have hO3 : Hid (w3.ownsRow (q + 1) 43 2 s8 l.length (l.map Ver.cells).flatten) := row_keep hO.out k3 (fun g hg => by omega)
        have hS3 : Hid (s3.size ≤ s.size) := by have := hS.out; unfold Hid; omega
        have HCall := HOne.out w3 t (by have := hS.out; omega) hE3.out
        have R3 := hid r3
        clear k3 h3 hs3 r3 ht hI hE hO hS
        go_wp2_with fail
        refine HCall.mono ?_
        rintro en w4 ⟨x, e, rfl, hg, x4, hb⟩
        have hI4 := hid (hI3.out.ext (x4.trans (Ext.alloc w4 (.cells #[.int .i64 x.by_, .int .i64 x.n] 43))))
        have hE4 := hid (hE3.out.trans (x4.trans (Ext.alloc w4 (.cells #[.int .i64 x.by_, .int .i64 x.n] 43))))
        have hO4 := hid (ownsRow_ext hO3.out (x4.trans (Ext.alloc w4 (.cells #[.int .i64 x.by_, .int .i64 x.n] 43))))
        have hW4 := hid (Blk.new w4 43 #[.int .i64 x.by_, .int .i64 x.n])
        have hB4 : Hid (∀ l0 : List Ver, (∀ x ∈ l0, ok x) → s = listB enc l0 → l0.length ≤ 90000 → e = 0 ∧ n = l0.length ∧ l ++ [x] = l0.take (k + 1) ∧ s3.data.toList = encL ((l0.drop (k + 1)).map (fun x => fT (enc x))) ∧ e3 = 0) := fun l0 a0 a1 a2 => by
          obtain ⟨b1, b2, b3, b4⟩ := hB.out l0 a0 a1 a2
          have hlt := hlt'.out
          have hkl : k < l0.length := by omega
          rw [List.drop_eq_getElem_cons hkl, List.map_cons, encL_cons] at b3
          have b3' : s'.data.toList = lebL (enc l0[k]).size ++ ((enc l0[k]).data.toList ++ encL ((l0.drop (k + 1)).map (fun x => fT (enc x)))) := by
            rw [b3]
            show (lebL (enc l0[k]).size ++ (enc l0[k]).data.toList) ++ _ = _
            rw [List.append_assoc]
          obtain ⟨c1, c2, c3⟩ := R3.out _ _ b4 b3'
          obtain ⟨f1, f2⟩ := hb l0[k] (a0 _ (List.getElem_mem hkl)) c1
          refine ⟨f2, b1, ?_, c2, c3⟩
          rw [List.take_succ_eq_append_getElem hkl, ← b2, f1]
        have hG4 : Hid (∀ y ∈ l ++ [x], okVer y) := fun y hy => by
          rcases List.mem_append.1 hy with hy | hy
          · exact hG.out y hy
          · rw [List.mem_singleton.1 hy]; exact hg
        clear hb hB R3 hI3 hE3 hO3 HCall hg hG
        by_cases h0 : e = 0
        · have d2 : (e != 0) = false := by simp [h0]
          clear h0
          obtain ⟨v', w6, hrun6, ho6, hk6, _⟩ := app_one (P := Try.prog) vr_elem vr_coded hO4.out (Nat.succ_le_of_lt hI4.out.lt) x (by have := hn9'.out; have := hln.out; omega) (by omega)
          simp only [Ver.cells, World.size_alloc] at hrun6
          have HE6 := hid (hk6.toExt hE4.out (fun g hg => Nat.le_trans HQ.out (Nat.le_of_lt (row_block hO4.out g hg).1)))
          have HI6 : Hid (InAt w6 q s3 e3) := Blk.keep hI4.out hk6 (fun h => by have := (row_block hO4.out q h).1; omega)
          have HO6 := hid ho6
          clear ho6 hk6 hI4 hE4 hO4 x4
          go_wp2_with (at_builtin; refine wpList_app rfl (.tmp 31) (.tmp 33) _ _ rfl rfl rfl hrun6 ?_)
          go_roundw
          case rel => exact ⟨k + 1, _, l ++ [x], s3, e3, rfl, by have := hlt'.out; omega, by go_num, by rw [List.length_append, hln.out]; rfl, HE6, HI6, hS3, hG4, fun h => by simp at h, HO6, fun l0 a0 a1 a2 => (hB4.out l0 a0 a1 a2).2⟩
          case measure => simp [intOf]; have := hlt'.out; omega
        · have d2 : (e != 0) = true := by simp [h0]
          have HD : Hid (∀ l0 : List Ver, (∀ x ∈ l0, ok x) → l0.length ≤ 90000 → s = listB enc l0 → [] = l0) := fun l0 a0 a1 a2 => absurd (hB4.out l0 a0 a2 a1).1 h0
          clear h0 hB4 hI4 hO4 hG4
          go_wp2_with fail
          go_ret2
          exact ⟨_, _, [], rfl, RowAt.nil _, Nat.zero_le _, fun x hx => (by cases hx), hE4.out, HD.out⟩
      · obtain rfl : k = n := by omega
        have hrow := hid (RowAt.of_row vr_coded hO.out hZ.out)
        have HD : Hid (∀ l0 : List Ver, (∀ x ∈ l0, ok x) → l0.length ≤ 90000 → s = listB enc l0 → l = l0) := fun l0 a0 a1 a2 => by
          obtain ⟨b1, b2, _⟩ := hB.out l0 a0 a2 a1
          rw [b2, b1, List.take_length]
        have HL : Hid (l.length ≤ s.size) := by unfold Hid; omega
        clear hB hO hZ HT HOne hlen hlt hk hn9
        go_wp2_with fail
        refine ((HEnd _ _ _ _ hI.out).out).mono ?_
        rintro en w7 ⟨rfl, x7⟩
        have hrow7 := hid (hrow.out.ext x7)
        have hE7 := hid (hE.out.trans x7)
        clear hrow hE hI x7 HEnd
        go_wp2_with fail
        go_ret2
        exact ⟨_, _, l, rfl, hrow7.out, HL.out, hG.out, hE7.out, HD.out⟩
end Go.Proofs.Ytanflgipdiogaaa
