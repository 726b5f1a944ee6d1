/-
  Items: pack.items, PutItems, GetItems; the document's Items.
  pack.PutItems, same, GetItems (out of the texts on filters).
-/
import Derived.Test.YtmbgakjkhgdjnaaGreatDoorQbH
import Derived.Test.YtmbgakjkhgdjnaaGreatDoorQdF
import Derived.Test.YtmbgakjkhgdjnaaGreatDoorQbG
namespace Go.Proofs.YtmbgakjkhgdjnaaGreatDoor
set_option linter.unusedSimpArgs false
set_option linter.unusedVariables false
open Go.RowKit

def itemsB (l : List Ver) : Bool := l.all rightV && decide (l = setL Ver.lt l)
theorem allV_take {f : List Ver} {k : Nat} (h : k < f.length) (h1 : (f.take k).all rightV = true) (h2 : rightV f[k] = true) : (f.take (k + 1)).all rightV = true := by
  rw [List.take_succ_eq_append_getElem h, List.all_append, h1]
  simp [h2]
theorem allV_hit {f : List Ver} {k : Nat} (h : k < f.length) (h2 : rightV f[k] = false) : f.all rightV = false := by
  rw [List.all_eq_false]
  exact ⟨f[k], List.getElem_mem h, by simp [h2]⟩
set_option maxRecDepth 100000 in
set_option maxHeartbeats 4000000 in
theorem items_c (w : World) (v : Value) (f : List Ver) (h : Sl w 2 v (f.map Ver.cells)) (hl : f.length ≤ 90000) : Calls Tryz.prog 97 #[v] w (Ret (.bool (itemsB f)) w) := by
  have HOf := fun W (hW : Ext w W) => hid (iof_c W v f (h.ext hW) (by omega))
  have HEq := fun W (hW : Ext w W) u (hu : Sl W 2 u ((setL Ver.lt f).map Ver.cells)) => hid (vequal_c W v u f (setL Ver.lt f) (h.ext hW) hu)
  obtain ⟨A, c, rfl, h1, h2, h3⟩ := sl_get h
  unfold maxLen at h2
  have HCh := fun W x => hid (vcheck_c x W)
  have HR : Hid (∀ b, (f.all rightV = b) → itemsB f = (b && decide (f = setL Ver.lt f))) := fun b hb => by unfold itemsB; rw [hb]
  have H3 := hid h3
  unfold Ver.val at HCh
  clear h h3 hl
  go_enter Tryz.func97, Tryz.ntmps97
  go_wp2_with fail
  go_loopw [7] (fun s7 wr => ∃ k : Nat, k ≤ f.length ∧ s7 = .int .i64 k ∧ Hid (Ext w wr) ∧ Hid ((f.take k).all rightV = true)) (fun s7 _ => f.length - (intOf s7).toNat)
  case atStart => exact ⟨0, by omega, rfl, Ext.refl _, rfl⟩
  case round =>
    obtain ⟨k, hk, rfl, hE, hA⟩ := hrel
    by_cases hlt : k < f.length
    · have d1 : decide ((k : Int) < f.length) = true := decide_eq_true (by omega)
      have d1' : decide (k < f.length) = true := decide_eq_true hlt
      obtain ⟨b, o, rfl, lb, hcell⟩ := H3.out (by omega)
      have c0 := hE.out.cell (hcell k hlt 0 _ rfl)
      have c1 := hE.out.cell (hcell k hlt 1 _ rfl)
      rw [Nat.add_zero] at c0
      have lbr := Nat.lt_of_lt_of_le lb hE.out.size
      have HC := fun W => HCh W f[k]
      have HT := hid (fun h => allV_take hlt hA.out h)
      have HF := hid (fun h => allV_hit hlt h)
      clear hcell H3 HCh hA HOf HEq lb
      generalize f[k] = x at c0 c1 HC HT HF
      cases hr : rightV x with
      | true =>
        have hT := hid (HT.out hr)
        (rw [checkV_yes hr] at HC)
        clear hr HT HF
        go_wp2_with fail
        refine ((HC _).out).mono ?_
        rintro e w2 ⟨rfl, x2⟩
        have hE2 := hid ((hE.out.alloc' _).trans x2)
        clear hE x2 HC
        go_wp2_with fail
        go_roundw
        case rel => exact ⟨k + 1, by omega, by go_num, hE2, hT⟩
        case measure => simp [intOf]; omega
      | false =>
        have hV := hid (HR.out false (HF.out hr))
        rw [Bool.false_and] at hV
        (rw [checkV_no hr] at HC)
        clear hr HT HF HR
        go_wp2_with fail
        refine ((HC _).out).mono ?_
        rintro e w2 ⟨rfl, x2⟩
        have hE2 := hid ((hE.out.alloc' _).trans x2)
        clear hE x2 HC
        go_wp2_with fail
        go_ret
        exact ⟨by rw [hV.out]; rfl, hE2.out⟩
    · obtain rfl : k = f.length := by omega
      rw [List.take_length] at hA
      have HV := hid (HR.out true hA.out)
      rw [Bool.true_and] at HV
      clear hA hlt hk H3 HR HCh
      go_wp2_with fail
      refine ((HOf _ hE.out).out).mono ?_
      rintro e w2 ⟨u, rfl, hu, x2⟩
      have hu2 := hid hu.1
      have hE2 := hid (hE.out.trans x2)
      clear hu x2 hE
      go_wp2_with fail
      refine ((HEq _ hE2.out _ hu2.out).out).mono ?_
      rintro e w3 ⟨rfl, x3⟩
      have hE3 := hid (hE2.out.trans x3)
      clear x3
      go_wp2_with fail
      go_ret
      exact ⟨by rw [HV.out]; rfl, hE3.out⟩
set_option maxRecDepth 100000 in
set_option maxHeartbeats 4000000 in
theorem ritems_c (w : World) (v : Value) (f : List Ver) (h : Sl w 2 v (f.map Ver.cells)) (hl : f.length ≤ 90000) : Calls Tryz.prog 45 #[v] w (Ret (.bool (itemsB f)) w) := by
  have HOf := fun W (hW : Ext w W) => hid (rof_c W v f (h.ext hW) (by omega))
  have HEq := fun W (hW : Ext w W) u (hu : Sl W 2 u ((setL Ver.lt f).map Ver.cells)) => hid (vsame_c W v u f (setL Ver.lt f) (h.ext hW) hu)
  obtain ⟨A, c, rfl, h1, h2, h3⟩ := sl_get h
  unfold maxLen at h2
  have HCh := fun W x => hid (vright_c x W)
  have HR : Hid (∀ b, (f.all rightV = b) → itemsB f = (b && decide (f = setL Ver.lt f))) := fun b hb => by unfold itemsB; rw [hb]
  have H3 := hid h3
  unfold Ver.val at HCh
  clear h h3 hl
  go_enter Tryz.func45, Tryz.ntmps45
  go_wp2_with fail
  go_loopw [3] (fun s7 wr => ∃ k : Nat, k ≤ f.length ∧ s7 = .int .i64 k ∧ Hid (Ext w wr) ∧ Hid ((f.take k).all rightV = true)) (fun s7 _ => f.length - (intOf s7).toNat)
  case atStart => exact ⟨0, by omega, rfl, Ext.refl _, rfl⟩
  case round =>
    obtain ⟨k, hk, rfl, hE, hA⟩ := hrel
    by_cases hlt : k < f.length
    · have d1 : decide ((k : Int) < f.length) = true := decide_eq_true (by omega)
      have d1' : decide (k < f.length) = true := decide_eq_true hlt
      obtain ⟨b, o, rfl, lb, hcell⟩ := H3.out (by omega)
      have c0 := hE.out.cell (hcell k hlt 0 _ rfl)
      have c1 := hE.out.cell (hcell k hlt 1 _ rfl)
      rw [Nat.add_zero] at c0
      have lbr := Nat.lt_of_lt_of_le lb hE.out.size
      have HC := fun W => HCh W f[k]
      have HT := hid (fun h => allV_take hlt hA.out h)
      have HF := hid (fun h => allV_hit hlt h)
      clear hcell H3 HCh hA HOf HEq lb
      generalize f[k] = x at c0 c1 HC HT HF
      have hE' := hE.out
      cases hr : rightV x with
      | true =>
        have hT := hid (HT.out hr)
        (rw [hr] at HC)
        clear hr HT HF
        go_wp2_with fail
        refine ((HC _).out).mono ?_
        rintro e w2 ⟨rfl, x2⟩
        have hE2 := hid (hE.out.trans x2)
        clear hE x2 HC
        go_wp2_with fail
        go_roundw
        case rel => exact ⟨k + 1, by omega, by go_num, hE2, hT⟩
        case measure => simp [intOf]; omega
      | false =>
        have hV := hid (HR.out false (HF.out hr))
        rw [Bool.false_and] at hV
        (rw [hr] at HC)
        clear hr HT HF HR
        go_wp2_with fail
        refine ((HC _).out).mono ?_
        rintro e w2 ⟨rfl, x2⟩
        have hE2 := hid (hE.out.trans x2)
        clear hE x2 HC
        go_wp2_with fail
        go_ret
        exact ⟨by rw [hV.out]; rfl, hE2.out⟩
    · obtain rfl : k = f.length := by omega
      rw [List.take_length] at hA
      have HV := hid (HR.out true hA.out)
      rw [Bool.true_and] at HV
      clear hA hlt hk H3 HR HCh
      go_wp2_with fail
      refine ((HOf _ hE.out).out).mono ?_
      rintro e w2 ⟨u, rfl, hu, x2⟩
      have hu2 := hid hu.1
      have hE2 := hid (hE.out.trans x2)
      clear hu x2 hE
      go_wp2_with fail
      refine ((HEq _ hE2.out _ hu2.out).out).mono ?_
      rintro e w3 ⟨rfl, x3⟩
      have hE3 := hid (hE2.out.trans x3)
      clear x3
      go_wp2_with fail
      go_ret
      exact ⟨by rw [HV.out]; rfl, hE3.out⟩
end Go.Proofs.YtmbgakjkhgdjnaaGreatDoor
namespace Go.Proofs.YtmbgakjkhgdjnaaGreatDoor
set_option linter.unusedSimpArgs false
set_option linter.unusedVariables false
open Go.RowKit

theorem ver64_ok {v : Ver} (h : okVer v) : ver64 v := by
  obtain ⟨h1, h2, h3, h4⟩ := h
  unfold ver64 in64; omega
theorem itemsB_ok {f : List Ver} (h : itemsB f = true) (hs : ∀ c ∈ f, ver64 c) : ∀ c ∈ f, okVer c := by
  intro c hc
  unfold itemsB at h
  simp only [Bool.and_eq_true, decide_eq_true_eq, List.all_eq_true] at h
  have h1 := h.1 c hc
  have h2 := hs c hc
  unfold rightV at h1
  unfold ver64 in64 at h2
  rw [decide_eq_true_eq] at h1
  unfold okVer; omega
set_option maxRecDepth 100000 in
set_option maxHeartbeats 4000000 in
theorem putI_c (w : World) (v : Value) (f : List Ver) (h : Sl w 2 v (f.map Ver.cells)) (hl : f.length ≤ 2400) (hs : ∀ c ∈ f, ver64 c) : Calls Tryz.prog 103 #[v] w (Ret (.tuple #[.string (putB (itemsB f) (listB verB f)), .int .i64 (okZ (itemsB f))]) w) := by
  have HC := hid (items_c w v f h (by omega))
  have HF := fun W s b => hid (fits_c W s b)
  cases hb : itemsB f with
  | false =>
    rw [hb] at HC
    rw [show putB false (listB verB f) = ⟨#[]⟩ from rfl, show okZ false = 2 from rfl]
    obtain ⟨A, c, rfl, _⟩ := sl_get h
    clear h hs hb HF
    go_enter Tryz.func103, Tryz.ntmps103
    go_wp2_with fail
    refine (HC.out).mono ?_
    rintro e w1 ⟨rfl, x1⟩
    have X1 := hid x1
    clear x1
    go_wp2_with fail
    go_ret2
    exact ⟨rfl, X1.out⟩
  | true =>
    have hok := itemsB_ok hb hs
    have HL := fun W (hW : Ext w W) => hid (listV_c W v f verB (h.ext hW) (by omega) (fun x hx W' _ => one_c W' x (hok x hx)) (fun x hx => ⟨verB_pos (hok x hx), by have := verB_okle (hok x hx); omega⟩) (by
      have := listB_len verB f 18 f.length (by decide) (Nat.le_refl _) (by omega) (fun x hx => verB_okle (hok x hx))
      omega))
    have e3 : (⟨(encL (fN f.length :: f.map (fun x => fT (verB x)))).toArray⟩ : ByteArray) = listB verB f := rfl
    rw [e3] at HL
    have hpos := listB_pos verB f
    rw [hb] at HC
    rw [show putB true (listB verB f) = listB verB f from rfl, show okZ true = 0 from rfl]
    generalize listB verB f = s at HL hpos ⊢
    have HFs := fun W => HF W s true
    rw [if_pos ⟨rfl, hpos⟩, if_pos rfl, if_pos hpos] at HFs
    obtain ⟨A, c, rfl, _⟩ := sl_get h
    clear h hs hb HF hok e3 hpos
    go_enter Tryz.func103, Tryz.ntmps103
    go_wp2_with fail
    refine (HC.out).mono ?_
    rintro e w1 ⟨rfl, x1⟩
    have X1 := hid x1
    clear x1
    go_wp2_with fail
    refine ((HL _ X1.out).out).mono ?_
    rintro e w2 ⟨rfl, x2⟩
    have X2 := hid (X1.out.trans x2)
    clear x2
    go_wp2_with fail
    refine ((HFs _).out).mono ?_
    rintro e w3 ⟨rfl, x3⟩
    have X3 := hid (X2.out.trans x3)
    clear x3
    go_wp2_with fail
    go_ret2
    exact ⟨rfl, X3.out⟩
set_option maxRecDepth 100000 in
set_option maxHeartbeats 4000000 in
theorem sameI_c (w : World) (v : Value) (s r : ByteArray) (e : Int) (HP : ∀ W, Ext w W → Hid (Calls Tryz.prog 103 #[v] W (Ret (.tuple #[.string r, .int .i64 e]) W))) : Calls Tryz.prog 154 #[v, .string s, .func (.func 103) #[] #[]] w (Ret (.tuple #[if e = 0 ∧ r = s then v else .slice none 0 0, .int .i64 (if e = 0 ∧ r = s then 0 else 6)]) w) := by
  have key : ∀ (y : Value) (z : Int), (e = 0 ∧ r = s ∧ v = y ∧ z = 0 ∨ (e != 0) = true ∧ .slice none 0 0 = y ∧ z = 6 ∨ e = 0 ∧ (r.toList == s.toList) = false ∧ .slice none 0 0 = y ∧ z = 6) → Calls Tryz.prog 154 #[v, .string s, .func (.func 103) #[] #[]] w (Ret (.tuple #[y, .int .i64 z]) w) := by
    rintro y z (⟨rfl, rfl, rfl, rfl⟩ | ⟨d0, rfl, rfl⟩ | ⟨rfl, d1, rfl, rfl⟩)
    · have d0 : (r.toList == r.toList) = true := by simp
      go_enter Tryz.func154, Tryz.ntmps154
      go_wp2_with fail
      refine ((HP _ (Ext.refl _)).out).mono ?_
      rintro en w1 ⟨rfl, x1⟩
      have HE1 := hid x1
      clear x1 HP
      go_wp2_with fail
      go_ret2
      exact ⟨rfl, HE1.out⟩
    · go_enter Tryz.func154, Tryz.ntmps154
      go_wp2_with fail
      refine ((HP _ (Ext.refl _)).out).mono ?_
      rintro en w1 ⟨rfl, x1⟩
      have HE1 := hid x1
      clear x1 HP
      go_wp2_with fail
      go_ret2
      exact ⟨rfl, HE1.out⟩
    · go_enter Tryz.func154, Tryz.ntmps154
      go_wp2_with fail
      refine ((HP _ (Ext.refl _)).out).mono ?_
      rintro en w1 ⟨rfl, x1⟩
      have HE1 := hid x1
      clear x1 HP
      go_wp2_with fail
      go_ret2
      exact ⟨rfl, HE1.out⟩
  by_cases h0 : e = 0
  · by_cases h1 : r = s
    · rw [if_pos ⟨h0, h1⟩, if_pos ⟨h0, h1⟩]
      exact key _ _ (.inl ⟨h0, h1, rfl, rfl⟩)
    · rw [if_neg (fun h => h1 h.2), if_neg (fun h => h1 h.2)]
      exact key _ _ (.inr (.inr ⟨h0, by rw [beq_toList]; simp [h1], rfl, rfl⟩))
  · rw [if_neg (fun h => h0 h.1), if_neg (fun h => h0 h.1)]
    exact key _ _ (.inr (.inl ⟨by simp [h0], rfl, rfl⟩))
set_option maxRecDepth 100000 in
set_option maxHeartbeats 4000000 in
theorem getI_c (w : World) (s : ByteArray) (hs : s.size ≤ 90000) (hq : s.size ≤ 2400 ∨ ∃ l0 : List Ver, (∀ x ∈ l0, okVer x) ∧ l0.length ≤ 2400 ∧ s = listB verB l0) : Calls Tryz.prog 111 #[.string s] w (fun en w' => ∃ (v : Value) (l : List Ver) (z : Int), en = .returned (.tuple #[v, .int .i64 z]) ∧ Ext w w' ∧ ((z = 0 ∧ itemsB l = true ∧ listB verB l = s ∧ RowAt Ver.cells 2 l v w' ∧ (∀ c ∈ l, okVer c) ∧ l.length ≤ 2400) ∨ (z = 6 ∧ v = .slice none 0 0)) ∧ (∀ f : List Ver, (∀ c ∈ f, ver64 c) → f.length ≤ 2400 → itemsB f = true → s = listB verB f → z = 0 ∧ l = f)) := by
  have HP := fun W => hid (partsV_c W s (by omega) verB okVer (fun W' t ht _ => (read_c W' t (by omega)).mono fun en w' ⟨z1, z2, e, h1, h2, h3, h4, h5⟩ => ⟨⟨z1, z2⟩, e, h1, ⟨Int.natCast_nonneg _, by show (z1 : Int) ≤ _; omega, Int.natCast_nonneg _, by show (z2 : Int) ≤ _; omega⟩, h4, fun x0 a b => by
    obtain ⟨c, d⟩ := h5 x0 a b
    exact ⟨c.symm, d⟩⟩))
  have HPF := fun W v l h h1 h2 => hid (putI_c W v l h h1 h2)
  go_enter Tryz.func111, Tryz.ntmps111
  go_wp2_with fail
  refine ((HP _).out).mono ?_
  rintro en w1 ⟨v, b, l, rfl, hrow, hl1, hg, x1, hb, -⟩
  have hll : l.length ≤ 2400 := by
    rcases hq with hq | ⟨l0, q1, q2, q3⟩
    · omega
    · rw [hb l0 q1 (by omega) q3]; exact q2
  have HLl := hid hll
  have HRow := hid hrow
  have X1 := hid x1
  have HG := hid hg
  have HB := hid hb
  have HS := hid (sameI_c w1 v s _ _ (fun W hW => HPF W v l (hrow.1.ext hW) hll (fun c hc => ver64_ok (hg c hc))))
  clear hrow x1 hg hb HP HPF hll hs hl1 hq
  go_wp2_with fail
  refine (HS.out).mono ?_
  rintro en w2 ⟨rfl, x2⟩
  have HRow2 := hid (HRow.out.ext x2)
  have X2 := hid (X1.out.trans x2)
  clear x2 X1 HRow HS
  have HD : Hid (∀ f : List Ver, (∀ c ∈ f, ver64 c) → f.length ≤ 2400 → itemsB f = true → s = listB verB f → (okZ (itemsB l) = 0 ∧ putB (itemsB l) (listB verB l) = s) ∧ l = f) := fun f a8 a9 a0 a1 => by
    have hok := itemsB_ok a0 a8
    obtain rfl := HB.out f hok (by omega) a1
    rw [a0]
    exact ⟨⟨rfl, a1.symm⟩, rfl⟩
  by_cases hc : okZ (itemsB l) = 0 ∧ putB (itemsB l) (listB verB l) = s
  · rw [if_pos hc, if_pos hc]
    have hcl : itemsB l = true := by
      cases h : itemsB l with
      | true => rfl
      | false => rw [h] at hc; exact absurd hc.1 (by decide)
    have he := hc.2
    rw [hcl] at he
    have HC := hid hcl
    have HE : Hid (listB verB l = s) := he
    clear hc hcl he HB
    go_wp2_with fail
    go_ret2
    exact ⟨v, l, 0, rfl, X2.out, .inl ⟨rfl, HC.out, HE.out, HRow2.out, HG.out, HLl.out⟩, fun f a8 a9 a b => ⟨rfl, (HD.out f a8 a9 a b).2⟩⟩
  · rw [if_neg hc, if_neg hc]
    have HN := hid hc
    clear hc HB
    go_wp2_with fail
    go_ret2
    exact ⟨_, l, 6, rfl, X2.out, .inr ⟨rfl, rfl⟩, fun f a8 a9 a b => absurd (HD.out f a8 a9 a b).1 HN.out⟩
end Go.Proofs.YtmbgakjkhgdjnaaGreatDoor
