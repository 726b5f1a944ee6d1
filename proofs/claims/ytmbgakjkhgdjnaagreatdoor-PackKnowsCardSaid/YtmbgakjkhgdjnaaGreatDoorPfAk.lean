/-
  pack.clauses; the document's Clauses; a clause's bytes.
-/
import Derived.Test.YtmbgakjkhgdjnaaGreatDoorFpZk
import Derived.Test.YtmbgakjkhgdjnaaGreatDoorQaE
namespace Go.Proofs.YtmbgakjkhgdjnaaGreatDoor
set_option linter.unusedSimpArgs false
set_option linter.unusedVariables false
open Go.RowKit

def clB (c : ClauseI) : ByteArray := textB c.pre ++ numB c.lo ++ numB c.hi
def clausesB (f : List ClauseI) : Bool := f.all rightC && decide (f.length ≤ 64)
structure ClauseOk (c : ClauseI) : Prop where
  pre : c.pre.size ≤ 40
  lo : 0 ≤ c.lo ∧ c.lo ≤ 200
  hi : 0 ≤ c.hi ∧ c.hi ≤ 200
theorem rightC_ok {c : ClauseI} (h : rightC c = true) : ClauseOk c := by
  unfold rightC at h
  simp only [Bool.and_eq_true, Bool.or_eq_true, decide_eq_true_eq] at h
  obtain ⟨h1, h2, h3, h4⟩ := h
  refine ⟨?_, by omega, by omega⟩
  rcases h1 with h1 | h1
  · rw [← size_toList, List.isEmpty_iff.1 h1]; exact Nat.zero_le _
  · exact path_40 h1
theorem check_one (c : ClauseI) : checkF [c] = mayK c := by
  unfold checkF
  rw [if_neg (by simp)]
  show (if mayK c = 0 then firstK [] else mayK c) = mayK c
  split
  · rename_i h; rw [h]; rfl
  · rfl
theorem all_take {f : List ClauseI} {k : Nat} (h : k < f.length) (h1 : (f.take k).all rightC = true) (h2 : rightC f[k] = true) : (f.take (k + 1)).all rightC = true := by
  rw [List.take_succ_eq_append_getElem h, List.all_append, h1]
  simp [h2]
theorem all_hit {f : List ClauseI} {k : Nat} (h : k < f.length) (h2 : rightC f[k] = false) : f.all rightC = false := by
  rw [List.all_eq_false]
  exact ⟨f[k], List.getElem_mem h, by simp [h2]⟩
set_option maxRecDepth 100000 in
set_option maxHeartbeats 4000000 in
theorem clauses_c (w : World) (v : Value) (f : List ClauseI) (m : Int) (hm : w.cell? ⟨0, 0, none⟩ = some (.int .i64 m)) (h : Sl w 3 v (f.map ClauseI.cells)) (hs : ∀ c ∈ f, c.pre.size ≤ 90000) : Calls Tryz.prog 96 #[v] w (Ret (.bool (clausesB f)) w) := by
  obtain ⟨A, c, rfl, h1, h2, h3⟩ := sl_get h
  unfold maxLen at h2
  have HCh := fun W (hW : Ext w W) u x (hx : x ∈ f) (hu : Sl W 3 u ([x].map ClauseI.cells)) => hid (fcheckM_c W u [x] m (hW.cell hm) hu (fun c hc => by rw [List.mem_singleton.1 hc]; exact hs x hx))
  have HR : Hid (∀ b, (f.all rightC = b) → clausesB f = (b && decide (f.length ≤ 64))) := fun b hb => by unfold clausesB; rw [hb]
  have H3 := hid h3
  clear h h3 hm hs
  go_enter Tryz.func96, Tryz.ntmps96
  go_wp2_with fail
  go_loopw [6] (fun s6 wr => ∃ k : Nat, k ≤ f.length ∧ s6 = .int .i64 k ∧ Hid (Ext w wr) ∧ Hid ((f.take k).all rightC = true)) (fun s6 _ => f.length - (intOf s6).toNat)
  case atStart => exact ⟨0, by omega, rfl, Ext.refl _, rfl⟩
  case round =>
    obtain ⟨k, hk, rfl, hE, hA⟩ := hrel
    by_cases hlt : k < f.length
    · have d1 : decide ((k : Int) < f.length) = true := decide_eq_true (by omega)
      have d1' : decide (k < f.length) = true := decide_eq_true hlt
      obtain ⟨b, o, rfl, lb, hcell⟩ := H3.out (by omega)
      have HSl : Hid (Sl wr 3 (.slice (some ⟨b, o + k * 3, none⟩) 1 (c - k)) ([f[k]].map ClauseI.cells)) := by
        refine ⟨_, c - k, rfl, by show 1 ≤ c - k; omega, by unfold maxLen; omega, fun _ => ⟨b, o + k * 3, rfl, Nat.lt_of_lt_of_le lb hE.out.size, fun i x j u hx hu => ?_⟩⟩
        cases i with
        | zero =>
          simp only [List.map_cons, List.map_nil, List.getElem?_cons_zero, Option.some.injEq] at hx
          subst hx
          rw [Nat.zero_mul, Nat.add_zero]
          exact hE.out.cell (hcell k hlt j u hu)
        | succ i => simp at hx
      have hck : ¬ c = k := by omega
      have HC := fun W (hW : Ext wr W) u (hu : Sl W 3 u ([f[k]].map ClauseI.cells)) => HCh W (hE.out.trans hW) u f[k] (List.getElem_mem hlt) hu
      rw [check_one] at HC
      have HT := hid (fun h => all_take hlt hA.out h)
      have HF := hid (fun h => all_hit hlt h)
      have HM := hid (mayK_zero f[k])
      clear hcell H3 HCh hA
      generalize f[k] = x at HSl HC HT HF HM
      go_wp2_with fail
      refine ((HC _ (Ext.refl _) _ HSl.out).out).mono ?_
      rintro e w2 ⟨rfl, x2⟩
      have hE2 := hid (hE.out.trans x2)
      clear hE x2 HC HSl
      cases hr : rightC x with
      | true =>
        have hz : mayK x = 0 := HM.out.2 hr
        have hT := hid (HT.out hr)
        rw [hz]
        clear hz hr HM HT HF
        go_wp2_with fail
        go_roundw
        case rel => exact ⟨k + 1, by omega, by go_num, hE2, hT⟩
        case measure => simp [intOf]; omega
      | false =>
        have hz : (mayK x != 0) = true := by
          simp only [bne_iff_ne, ne_eq]
          intro h
          rw [HM.out.1 h] at hr; cases hr
        have hV := hid (HR.out false (HF.out hr))
        rw [Bool.false_and] at hV
        generalize mayK x = z at hz ⊢
        clear hr HM HT HF HR
        go_wp2_with fail
        go_ret
        exact ⟨by rw [hV.out]; rfl, hE2.out⟩
    · obtain rfl : k = f.length := by omega
      rw [List.take_length] at hA
      have HV := hid (HR.out true hA.out)
      clear hA hlt hk HCh H3 HR
      by_cases h64 : f.length ≤ 64
      · have d2 : decide ((f.length : Int) ≤ 64) = true := decide_eq_true (by omega)
        have d2' : decide (f.length ≤ 64) = true := decide_eq_true h64
        rw [d2', Bool.true_and] at HV
        clear h64
        go_wp2_with fail
        go_ret
        exact ⟨by rw [HV.out]; rfl, hE.out⟩
      · have d2 : decide ((f.length : Int) ≤ 64) = false := decide_eq_false (by omega)
        have d2' : decide (f.length ≤ 64) = false := decide_eq_false h64
        rw [d2', Bool.true_and] at HV
        clear h64
        go_wp2_with fail
        go_ret
        exact ⟨by rw [HV.out]; rfl, hE.out⟩
set_option maxRecDepth 100000 in
set_option maxHeartbeats 4000000 in
theorem rclauses_c (w : World) (v : Value) (f : List ClauseI) (h : Sl w 3 v (f.map ClauseI.cells)) (hs : ∀ c ∈ f, c.pre.size ≤ 90000) : Calls Tryz.prog 43 #[v] w (Ret (.bool (clausesB f)) w) := by
  obtain ⟨A, c, rfl, h1, h2, h3⟩ := sl_get h
  unfold maxLen at h2
  have HCh := fun W x (hx : x ∈ f) => hid (rrightC_c W x (hs x hx))
  have HR : Hid (∀ b, (f.all rightC = b) → clausesB f = (b && decide (f.length ≤ 64))) := fun b hb => by unfold clausesB; rw [hb]
  have H3 := hid h3
  unfold ClauseI.val at HCh
  clear h h3 hs
  go_enter Tryz.func43, Tryz.ntmps43
  go_wp2_with fail
  go_loopw [3] (fun s6 wr => ∃ k : Nat, k ≤ f.length ∧ s6 = .int .i64 k ∧ Hid (Ext w wr) ∧ Hid ((f.take k).all rightC = true)) (fun s6 _ => f.length - (intOf s6).toNat)
  case atStart => exact ⟨0, by omega, rfl, Ext.refl _, rfl⟩
  case round =>
    obtain ⟨k, hk, rfl, hE, hA⟩ := hrel
    by_cases hlt : k < f.length
    · have d1 : decide ((k : Int) < f.length) = true := decide_eq_true (by omega)
      have d1' : decide (k < f.length) = true := decide_eq_true hlt
      obtain ⟨b, o, rfl, lb, hcell⟩ := H3.out (by omega)
      have c0 := hE.out.cell (hcell k hlt 0 _ rfl)
      have c1 := hE.out.cell (hcell k hlt 1 _ rfl)
      have c2 := hE.out.cell (hcell k hlt 2 _ rfl)
      rw [Nat.add_zero] at c0
      have lbr := Nat.lt_of_lt_of_le lb hE.out.size
      have HC := fun W => HCh W f[k] (List.getElem_mem hlt)
      have HT := hid (fun h => all_take hlt hA.out h)
      have HF := hid (fun h => all_hit hlt h)
      clear hcell H3 HCh hA
      generalize f[k] = x at c0 c1 c2 HC HT HF
      go_wp2_with fail
      refine ((HC _).out).mono ?_
      rintro e w2 ⟨rfl, x2⟩
      have hE2 := hid (hE.out.trans x2)
      clear hE x2 HC
      cases hr : rightC x with
      | true =>
        have hT := hid (HT.out hr)
        clear hr HT HF c0 c1 c2
        go_wp2_with fail
        go_roundw
        case rel => exact ⟨k + 1, by omega, by go_num, hE2, hT⟩
        case measure => simp [intOf]; omega
      | false =>
        have hV := hid (HR.out false (HF.out hr))
        rw [Bool.false_and] at hV
        clear hr HT HF HR c0 c1 c2
        go_wp2_with fail
        go_ret
        exact ⟨by rw [hV.out]; rfl, hE2.out⟩
    · obtain rfl : k = f.length := by omega
      rw [List.take_length] at hA
      have HV := hid (HR.out true hA.out)
      clear hA hlt hk HCh H3 HR
      by_cases h64 : f.length ≤ 64
      · have d2 : decide ((f.length : Int) ≤ 64) = true := decide_eq_true (by omega)
        have d2' : decide (f.length ≤ 64) = true := decide_eq_true h64
        rw [d2', Bool.true_and] at HV
        clear h64
        go_wp2_with fail
        go_ret
        exact ⟨by rw [HV.out]; rfl, hE.out⟩
      · have d2 : decide ((f.length : Int) ≤ 64) = false := decide_eq_false (by omega)
        have d2' : decide (f.length ≤ 64) = false := decide_eq_false h64
        rw [d2', Bool.true_and] at HV
        clear h64
        go_wp2_with fail
        go_ret
        exact ⟨by rw [HV.out]; rfl, hE.out⟩
end Go.Proofs.YtmbgakjkhgdjnaaGreatDoor
