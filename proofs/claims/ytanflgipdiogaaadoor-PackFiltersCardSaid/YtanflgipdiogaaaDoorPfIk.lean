/-
  The law PackFilters: its walk.
-/
import Derived.Test.YtanflgipdiogaaaDoorQbC
import Derived.Test.YtanflgipdiogaaaDoorPkBk
namespace Go.Proofs.YtanflgipdiogaaaDoor
set_option linter.unusedSimpArgs false
set_option linter.unusedVariables false
open Go.RowKit

set_option maxRecDepth 100000 in
set_option maxHeartbeats 16000000 in
theorem pf_walk (w : World) (v : Value) (f : List ClauseI) (s : ByteArray) (m : Int) (hm : w.cell? ⟨0, 0, none⟩ = some (.int .i64 m)) (h : Sl w 3 v (f.map ClauseI.cells)) (hin : ∀ x ∈ f, in64 x.lo ∧ in64 x.hi) : Calls Tryd.prog 6 #[v, .string s] w (Ret (.bool true) w) := by
  have HAw := fun W => hid (awake17_c W)
  have HRow := hid h
  obtain ⟨A, c, rfl, h1, h2, h3⟩ := sl_get h
  unfold maxLen at h2
  have H3 := hid h3
  have HIn := hid hin
  have HM := hid hm
  clear h h3 hin hm
  go_enter Tryd.func6, Tryd.ntmps6
  go_wp2_with fail
  go_loopw [5] (fun s5 wr => ∃ k : Nat, k ≤ f.length ∧ s5 = .int .i64 k ∧ Hid (Ext w wr) ∧ Hid (∀ x ∈ f.take k, x.pre.size ≤ 200)) (fun s5 _ => f.length - (intOf s5).toNat)
  case atStart => exact ⟨0, by omega, rfl, Ext.refl _, fun x hx => by simp at hx⟩
  case round =>
    obtain ⟨k, hk, rfl, hE, hP⟩ := hrel
    by_cases hlt : k < f.length
    · have d1 : decide ((k : Int) < f.length) = true := decide_eq_true (by omega)
      have d1' : decide (k < f.length) = true := decide_eq_true hlt
      obtain ⟨b, o, rfl, lb, hcell⟩ := H3.out (by omega)
      have c0 := hE.out.cell (hcell k hlt 0 _ rfl)
      rw [Nat.add_zero] at c0
      have lbr := Nat.lt_of_lt_of_le lb hE.out.size
      have HT : Hid (f[k].pre.size ≤ 200 → ∀ x ∈ f.take (k + 1), x.pre.size ≤ 200) := fun h9 x hx => by
        rw [List.take_succ_eq_append_getElem hlt] at hx
        rcases List.mem_append.1 hx with hx | hx
        · exact hP.out x hx
        · rw [List.mem_singleton.1 hx]; exact h9
      clear hcell H3 hP lb
      generalize f[k] = x at c0 HT
      by_cases hb : 200 < x.pre.size
      · have d2 : decide (200 < x.pre.size) = true := decide_eq_true hb
        have d2' : decide ((200 : Int) < x.pre.size) = true := decide_eq_true (by omega)
        clear hb HT
        go_wp2_with fail
        refine ((HAw _).out).mono ?_
        rintro e w2 ⟨rfl, x2⟩
        have hE2 := hid (hE.out.trans x2)
        clear x2
        go_wp2_with fail
        go_ret
        exact ⟨rfl, hE2.out⟩
      · have d2 : decide (200 < x.pre.size) = false := decide_eq_false hb
        have d2' : decide ((200 : Int) < x.pre.size) = false := decide_eq_false (by omega)
        have hT := hid (HT.out (by omega))
        clear hb HT
        go_wp2_with fail
        go_roundw
        case rel => exact ⟨k + 1, by omega, by go_num, hE, hT⟩
        case measure => simp [intOf]; omega
    · obtain rfl : k = f.length := by omega
      rw [List.take_length] at hP
      clear hlt hk H3
      by_cases hlen : 100 < f.length
      · have d1 : decide (100 < f.length) = true := decide_eq_true hlen
        have d1' : decide ((100 : Int) < f.length) = true := decide_eq_true (by omega)
        clear hlen
        go_wp2_with fail
        refine ((HAw _).out).mono ?_
        rintro e w2 ⟨rfl, x2⟩
        have hE2 := hid (hE.out.trans x2)
        clear x2
        go_wp2_with fail
        go_ret
        exact ⟨rfl, hE2.out⟩
      have d1 : decide (100 < f.length) = false := decide_eq_false hlen
      have d1' : decide ((100 : Int) < f.length) = false := decide_eq_false (by omega)
      by_cases hbig : 2000 < s.size
      · have d2 : decide (2000 < s.size) = true := decide_eq_true hbig
        have d2' : decide ((2000 : Int) < s.size) = true := decide_eq_true (by omega)
        clear hbig hlen
        go_wp2_with fail
        refine ((HAw _).out).mono ?_
        rintro e w2 ⟨rfl, x2⟩
        have hE2 := hid (hE.out.trans x2)
        clear x2
        go_wp2_with fail
        go_ret
        exact ⟨rfl, hE2.out⟩
      have d2 : decide (2000 < s.size) = false := decide_eq_false hbig
      have d2' : decide ((2000 : Int) < s.size) = false := decide_eq_false (by omega)
      have HPf := fun W (hW : Ext w W) => hid (putF_c W _ f m (hW.cell HM.out) (HRow.out.ext hW) (fun c hc => by have := hP.out c hc; omega))
      have HRc := fun W (hW : Ext w W) => hid (rclauses_c W _ f (HRow.out.ext hW) (fun c hc => by have := hP.out c hc; omega))
      have HRf := fun W (hW : Ext w W) => hid (rfilter_c W _ f (HRow.out.ext hW) (by omega) (fun x hx => ⟨by have := hP.out x hx; omega, HIn.out x hx⟩))
      have HAn := fun W b S => hid (answer17_c W b S)
      have HGf := fun W (hW : Ext w W) S hS => hid (getF_c W S m (hW.cell HM.out) hS)
      have HSz := hid (fun (h : clausesB f = true) => listC_size h)
      have HEq := fun W (hW : Ext w W) u (hu : Sl W 3 u (f.map ClauseI.cells)) => hid (requal_c W u _ f f hu (HRow.out.ext hW))
      simp only [decide_true] at HEq
      have HGx := fun W v l (hv : Sl W 3 v (l.map ClauseI.cells)) (hc : clausesB l = true) (hs : listB clB l = s) => (⟨hid (rclauses_c W v l hv (fun c hcm => by have := ((clausesB_ok hc).2 c hcm).pre; omega)), hid (rfilter_c W v l hv (by have := (clausesB_ok hc).1; omega) (fun x hx => by
        have h9 := (clausesB_ok hc).2 x hx
        have h1 := h9.pre; have h2 := h9.lo; have h3 := h9.hi
        exact ⟨by omega, ⟨by omega, by omega⟩, ⟨by omega, by omega⟩⟩))⟩ : _ ∧ _)
      have hs9 : s.size ≤ 90000 := by omega
      have HS9 := hid hs9
      have HBk := hid (fun (h : clausesB f = true) => h)
      clear hlen hbig hs9 hP HIn HM
      generalize hb : clausesB f = b at HPf HRc HSz
      generalize hU : listB clB f = U at HPf HRf HSz
      have HB := hid hb
      have HU := hid hU
      clear hb hU HBk
      go_wp2_with fail
      refine ((HPf _ hE.out).out).mono ?_
      rintro e w2 ⟨rfl, x2⟩
      have hE2 := hid (hE.out.trans x2)
      clear x2 hE HPf
      go_wp2_with fail
      refine ((HRc _ hE2.out).out).mono ?_
      rintro e w3 ⟨rfl, x3⟩
      have hE3 := hid (hE2.out.trans x3)
      clear x3 hE2 HRc
      go_wp2_with fail
      refine ((HRf _ hE3.out).out).mono ?_
      rintro e w4 ⟨rfl, x4⟩
      have hE4 := hid (hE3.out.trans x4)
      clear x4 hE3 HRf
      go_wp2_with fail
      refine ((HAn _ _ _).out).mono ?_
      rintro e w5 ⟨rfl, x5⟩
      have hE5 := hid (hE4.out.trans x5)
      clear x5 hE4 HAn
      go_wp2_with fail
      cases b with
      | true =>
        rw [show putB true U = U from rfl, show okZ true = 0 from rfl]
        refine ((HGf _ hE5.out U (by have := HSz.out rfl; omega)).out).mono ?_
        rintro e w6 ⟨v1, l1, z1, rfl, x6, hd, hback⟩
        obtain ⟨rfl, rfl⟩ := hback f HB.out HU.out.symm
        have hE6 := hid (hE5.out.trans x6)
        have HR1 : Hid (Sl w6 3 v1 (l1.map ClauseI.cells)) := by
          rcases hd with ⟨_, _, _, hr, _⟩ | ⟨h9, _⟩
          · exact hr.1
          · exact absurd h9 (by decide)
        clear hd hback x6 hE5
        go_wp2_with fail
        refine ((HEq _ hE6.out _ HR1.out).out).mono ?_
        rintro e w7 ⟨rfl, x7⟩
        have hE7 := hid (hE6.out.trans x7)
        clear x7 hE6 HR1 HB HU HSz
        go_wp2_with fail
        refine ((HGf _ hE7.out s HS9.out).out).mono ?_
        rintro e w8 ⟨v2, l2, z2, rfl, x8, hd2, -⟩
        have hE8 := hid (hE7.out.trans x8)
        clear x8 hE7
        rcases hd2 with ⟨rfl, hc2, he2, hr2, -⟩ | ⟨rfl, rfl⟩
        · have HR2 := hid hr2.1
          have HX := hid (fun W (hW : Ext w8 W) => HGx W v2 l2 (HR2.out.ext hW) hc2 he2)
          rw [he2, hc2] at HX
          have dss : (s.toList == s.toList) = true := by simp
          obtain ⟨A2, c2, rfl, _⟩ := sl_get hr2.1
          clear hr2 hc2 he2 HGx HGf HEq
          go_wp2_with fail
          refine ((HAw _).out).mono ?_
          rintro e w9 ⟨rfl, x9⟩
          have hE9 := hid (hE8.out.trans x9)
          have X9 := hid x9
          clear x9
          go_wp2_with fail
          refine ((HX.out _ X9.out).1.out).mono ?_
          rintro e w10 ⟨rfl, x10⟩
          have hE10 := hid (hE9.out.trans x10)
          have X10 := hid (X9.out.trans x10)
          clear x10
          go_wp2_with fail
          refine ((HX.out _ X10.out).2.out).mono ?_
          rintro e w11 ⟨rfl, x11⟩
          have hE11 := hid (hE10.out.trans x11)
          clear x11
          go_wp2_with fail
          go_ret
          exact ⟨rfl, hE11.out⟩
        · clear HGx HGf HEq
          go_wp2_with fail
          refine ((HAw _).out).mono ?_
          rintro e w9 ⟨rfl, x9⟩
          have hE9 := hid (hE8.out.trans x9)
          clear x9
          go_wp2_with fail
          go_ret
          exact ⟨rfl, hE9.out⟩
      | false =>
        rw [show putB false U = ⟨#[]⟩ from rfl, show okZ false = 2 from rfl]
        refine ((HGf _ hE5.out ⟨#[]⟩ (by decide)).out).mono ?_
        rintro e w6 ⟨v1, l1, z1, rfl, x6, -, -⟩
        have hE6 := hid (hE5.out.trans x6)
        clear x6 hE5 HB HU HSz
        go_wp2_with fail
        refine ((HGf _ hE6.out s HS9.out).out).mono ?_
        rintro e w8 ⟨v2, l2, z2, rfl, x8, hd2, -⟩
        have hE8 := hid (hE6.out.trans x8)
        clear x8 hE6
        rcases hd2 with ⟨rfl, hc2, he2, hr2, -⟩ | ⟨rfl, rfl⟩
        · have HR2 := hid hr2.1
          have HX := hid (fun W (hW : Ext w8 W) => HGx W v2 l2 (HR2.out.ext hW) hc2 he2)
          rw [he2, hc2] at HX
          have dss : (s.toList == s.toList) = true := by simp
          obtain ⟨A2, c2, rfl, _⟩ := sl_get hr2.1
          clear hr2 hc2 he2 HGx HGf HEq
          go_wp2_with fail
          refine ((HAw _).out).mono ?_
          rintro e w9 ⟨rfl, x9⟩
          have hE9 := hid (hE8.out.trans x9)
          have X9 := hid x9
          clear x9
          go_wp2_with fail
          refine ((HX.out _ X9.out).1.out).mono ?_
          rintro e w10 ⟨rfl, x10⟩
          have hE10 := hid (hE9.out.trans x10)
          have X10 := hid (X9.out.trans x10)
          clear x10
          go_wp2_with fail
          refine ((HX.out _ X10.out).2.out).mono ?_
          rintro e w11 ⟨rfl, x11⟩
          have hE11 := hid (hE10.out.trans x11)
          clear x11
          go_wp2_with fail
          go_ret
          exact ⟨rfl, hE11.out⟩
        · clear HGx HGf HEq
          go_wp2_with fail
          refine ((HAw _).out).mono ?_
          rintro e w9 ⟨rfl, x9⟩
          have hE9 := hid (hE8.out.trans x9)
          clear x9
          go_wp2_with fail
          go_ret
          exact ⟨rfl, hE9.out⟩
end Go.Proofs.YtanflgipdiogaaaDoor
