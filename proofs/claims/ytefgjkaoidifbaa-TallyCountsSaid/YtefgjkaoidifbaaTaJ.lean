/-
  tally.Busiest.
-/
import Derived.Test.YtefgjkaoidifbaaTaI
import Derived.Test.YtefgjkaoidifbaaTaB
namespace Go.Proofs.Ytefgjkaoidifbaa
set_option linter.unusedSimpArgs false
set_option linter.unusedVariables false
open Go.RowKit Go.Maps

noncomputable abbrev RI : Value → Option (DataW Value × List MemPlace) := plainElem Try.prog 3
theorem RI_int {c : Int} (h : (Lit.int .i64 c).wf = true) : RI (.int .i64 c) = some (.lit (.int .i64 c), []) := plainElem_int Try.underlying3 h
theorem zeroI (w : World) : (zeroValue 3).run Try.prog w = .ok (.int .i64 0) w := by kernel_rfl
theorem wf_small {c : Int} (h : 0 ≤ c ∧ c ≤ 100000) : (Lit.int .i64 c).wf = true := by
  simp [Lit.wf, IntKind.min, IntKind.max, IntKind.signed, IntKind.bits]
  omega

/-- The map reads as the sums of l. -/
structure MapT (D : DataW Value) (l : List MailI) : Prop where
  map : IsMap D
  has : ∀ k, Maps.has D (KI k) = true ↔ presT l k
  key : ∀ kl, Maps.has D kl = true → ∃ k, kl = KI k
  at_ : ∀ k, D.atKey (KI k) (.lit (.int .i64 0)) = .lit (.int .i64 (sumTo l k))
theorem MapT.nil : MapT (.map []) [] := ⟨isMap_empty, fun k => by simp [Maps.has, presT], fun kl h => by simp [Maps.has] at h, fun k => by rw [atKey_of_not_has (by simp [Maps.has])]; rfl⟩
theorem MapT.put {D : DataW Value} {l : List MailI} (h : MapT D l) (x : MailI) : MapT (D.put (KI x.to_) (.lit (.int .i64 (sumTo l x.to_ + x.s.size)))) (l ++ [x]) where
  map := h.map.put _ _
  has := fun k => by
    rw [presT_snoc]
    by_cases e : k = x.to_
    · subst e
      rw [has_put_same h.map (isKey _)]
      simp
    · rw [has_put_other (KI_ne e), h.has]
      constructor
      · exact .inl
      · rintro (h | h)
        · exact h
        · exact absurd h.symm e
  key := fun kl hkl => by
    by_cases e : kl = KI x.to_
    · exact ⟨_, e⟩
    · rw [has_put_other e] at hkl
      exact h.key kl hkl
  at_ := fun k => by
    by_cases e : k = x.to_
    · subst e
      rw [atKey_put_same h.map (isKey _), sumTo_snoc, if_pos rfl]
    · rw [atKey_put_other (KI_ne e), sumTo_snoc, if_neg (fun h => e h.symm)]
      exact h.at_ k

/-- The best of those that have come. -/
structure Best (l : List MailI) (D : DataW Value) (left : Lit → Bool) (best most : Int) (found : Bool) : Prop where
  sub : ∀ kl, left kl = true → Maps.has D kl = true
  no : found = false → best = 0 ∧ most = 0 ∧ ∀ t, presT l t → left (KI t) = true
  yes : found = true → presT l best ∧ most = sumTo l best ∧ ∀ t, presT l t → left (KI t) = false → sumTo l t < most ∨ sumTo l t = most ∧ best ≤ t
theorem Best.start {l : List MailI} {D : DataW Value} (hD : MapT D l) : Best l D (Maps.has D) 0 0 false := ⟨fun _ h => h, fun _ => ⟨rfl, rfl, fun t ht => (hD.has t).2 ht⟩, fun h => by cases h⟩
theorem Best.done {l : List MailI} {D : DataW Value} {left : Lit → Bool} {best most : Int} {found : Bool} (h : Best l D left best most found) (hl : ∀ kl, left kl = false) : Most l (best, most) := by
  cases found with
  | false =>
    obtain ⟨rfl, rfl, h3⟩ := h.no rfl
    refine .inl ⟨?_, rfl⟩
    rcases l with _ | ⟨x, l⟩
    · rfl
    · have := h3 x.to_ ⟨x, by simp, rfl⟩
      rw [hl] at this; cases this
  | true =>
    obtain ⟨h1, h2, h3⟩ := h.yes rfl
    exact .inr ⟨h1, h2, fun t ht => h3 t ht (hl _)⟩
theorem Best.step {l : List MailI} {D : DataW Value} (hD : MapT D l) {left : Lit → Bool} {best most : Int} {found : Bool} (h : Best l D left best most found) {x : Int} (hl : left (KI x) = true) :
    presT l x ∧ ((found = false ∨ most < sumTo l x ∨ sumTo l x = most ∧ x < best) → Best l D (fun z => left z && !z.sameKey (KI x)) x (sumTo l x) true) ∧
    (¬ (found = false ∨ most < sumTo l x ∨ sumTo l x = most ∧ x < best) → Best l D (fun z => left z && !z.sameKey (KI x)) best most found) := by
  have hp : presT l x := (hD.has x).1 (h.sub _ hl)
  have hsub : ∀ kl, (left kl && !kl.sameKey (KI x)) = true → Maps.has D kl = true := fun kl hkl => by
    simp only [Bool.and_eq_true] at hkl
    exact h.sub kl hkl.1
  have hleft : ∀ t, (left (KI t) && !(KI t).sameKey (KI x)) = false → t = x ∨ left (KI t) = false := fun t ht => by
    simp only [Bool.and_eq_false_iff, Bool.not_eq_false', sameKI, decide_eq_true_eq] at ht
    exact ht.symm
  refine ⟨hp, fun hc => ⟨hsub, fun h => (by cases h), fun _ => ⟨hp, rfl, fun t ht htl => ?_⟩⟩, fun hc => ⟨hsub, fun hf => absurd (.inl hf) hc, fun hf => ?_⟩⟩
  · rcases hleft t htl with rfl | h0
    · omega
    · cases found with
      | false =>
        have := (h.no rfl).2.2 t ht
        rw [h0] at this; cases this
      | true =>
        have := (h.yes rfl).2.2 t ht h0
        simp at hc
        omega
  · obtain ⟨h1, h2, h3⟩ := h.yes hf
    refine ⟨h1, h2, fun t ht htl => ?_⟩
    rcases hleft t htl with rfl | h0
    · have : ¬ (most < sumTo l t ∨ sumTo l t = most ∧ t < best) := fun h => hc (.inr h)
      omega
    · exact h3 t ht h0

set_option maxRecDepth 100000 in
set_option maxHeartbeats 4000000 in
theorem busiest_c (w : World) (v : Value) (l : List MailI) (h : Sl w 3 v (l.map MailI.cells)) (hs : Small l) (hk : ∀ m ∈ l, okK m.to_) : Calls Try.prog 22 #[v] w (fun e w' => ∃ p, e = .returned (.tuple #[.int .i64 p.1, .int .i64 p.2]) ∧ Most l p ∧ Ext w w') := by
  obtain ⟨A, c, rfl, h1, h2, h3⟩ := sl_get h
  unfold maxLen at h2
  have hl := hs.1
  have HS : Hid (∀ k t, 0 ≤ sumTo (l.take k) t ∧ sumTo (l.take k) t ≤ 100000) := fun k t => sumTo_bd (hs.take k) t
  have HZ := hid hs.2
  have HK := hid hk
  clear h hs hk
  have hmm := @run_makeMap Try.prog
  go_enter Try.func22, Try.ntmps22
  go_wp2_with fail
  have hE0 := Ext.alloc w (.map #[] 0)
  have hM0 : (w.alloc (.map #[] 0)).ownsMap Try.prog 3 RI w.heap.size 0 (.map []) := World.ownsMap_made w Try.prog 3 RI
  obtain ⟨b, hbb⟩ : ∃ b, b = w.heap.size := ⟨_, rfl⟩
  rw [← hbb] at hM0
  rw [← hbb]
  have n2 : w.heap.size ≤ b := by omega
  generalize w.alloc (.map #[] 0) = w0 at hE0 hM0 ⊢
  clear hbb hmm
  go_loopw [15] (fun i wr => ∃ k : Nat, k ≤ l.length ∧ i = .int .i64 k ∧ Ext w wr ∧ ∃ D : DataW Value, wr.ownsMap Try.prog 3 RI b k D ∧ MapT D (l.take k)) (fun i _ => l.length - (intOf i).toNat)
  case atStart => exact ⟨0, by omega, rfl, hE0, _, hM0, MapT.nil⟩
  case round =>
    obtain ⟨k, hk, rfl, hE, D, hM, hD⟩ := hrel
    clear hE0 hM0
    have HE := hid hE
    by_cases hlt : k < l.length
    · obtain ⟨b', o, rfl, lb, hcell⟩ := h3 (by omega)
      have c0 := hE.cell (hcell k hlt 0 _ rfl)
      have c1 := hE.cell (hcell k hlt 1 _ rfl)
      have c2 := hE.cell (hcell k hlt 2 _ rfl)
      rw [Nat.add_zero] at c0
      have lbr := Nat.lt_of_lt_of_le lb hE.size
      have hz := HZ.out _ (List.getElem_mem hlt)
      have hkz := HK.out _ (List.getElem_mem hlt)
      have hb1 := HS.out k l[k].to_
      have hput := hid (hD.put l[k])
      rw [← List.take_succ_eq_append_getElem hlt] at hput
      have hsum := HS.out (k + 1) l[k].to_
      rw [List.take_succ_eq_append_getElem hlt, sumTo_snoc, if_pos rfl] at hsum
      have hat := hD.at_ l[k].to_
      clear hE hcell h3 hD
      generalize l[k] = z at c0 c1 c2 hz hkz hb1 hput hsum hat
      generalize sumTo (l.take k) z.to_ = s at hb1 hput hsum hat
      have hEa := Ext.alloc wr (.cells #[.int .i64 z.from_, .int .i64 z.to_, .string z.s] 36)
      have hMa := ownsMap_ext hM hEa
      obtain ⟨c', hrun, hc', _⟩ := hMa.lookup_int kLaw Try.underlying78 Try.underlying3 (zeroI _) (okK_mk hkz)
      rw [hat] at hc'
      injection hc' with hc'
      injection hc' with _ hc'
      subst hc'
      have hval := RI_int (wf_small hsum)
      have HMa := hid hMa
      have HEa := hid (HE.out.trans hEa)
      have hkey := okK_mk hkz
      clear hEa hMa hM hat hkz HE
      go_wp2_with (at_mapUpdate; refine wpList_mapUpdate_own _ rfl _ _ _ 78 rfl 3 3 kLaw Try.underlying78 RI b k D rfl HMa.out (by unfold maxLen; omega) _ _ _ rfl rfl hkey _ [] hval ?_; intro w3 hown3 hgrow3; have HO3 := hid hown3; have HG3 := hid (Keep.of_grown hgrow3); clear hown3 hgrow3)
      go_roundw
      case rel => exact ⟨k + 1, by omega, by go_num, HG3.out.toExt HEa.out (fun _ e => by rw [e]; exact n2), _, HO3.out, hput.out⟩
      case measure => simp [intOf]; omega
    · obtain rfl : k = l.length := by omega
      rw [List.take_length] at hD
      have HD := hid hD
      clear hE h3 hD
      go_wp2_with (at_range; refine wpList_range_own _ rfl _ 78 rfl 3 3 kLaw Try.underlying78 RI b l.length D rfl hM ?_; intro w2 hrg hg2 hs2)
      go_frame
      have hE2 : Ext w w2 := HE.out.trans ⟨hg2.os, hg2.tape, hg2.output, hg2.size, fun i hi => hg2.block i hi (by simp)⟩
      obtain ⟨r, hr⟩ : ∃ r, r = wr.heap.size := ⟨_, rfl⟩
      rw [← hr] at hrg hs2 ⊢
      have n4 : w.heap.size ≤ r := by have := HE.out.size; omega
      have HRg := hid hrg
      have HE2 := hid hE2
      have HS' := HS.out l.length
      rw [List.take_length] at HS'
      have HS2 := hid HS'
      clear hM hg2 hs2 hr hrg hE2 HS HS' HE
      go_loopw [7, 8, 9] (fun vb vm vf wi => ∃ (left : Lit → Bool) (cnt : Nat) (best most : Int) (found : Bool), vb = .int .i64 best ∧ vm = .int .i64 most ∧ vf = .bool found ∧ wi.ranges Try.prog 3 RI b r l.length D left cnt ∧ Ext w wi ∧ Best l D left best most found) (fun _ _ _ wi => wi.rangeLeft b r)
      case atStart => exact ⟨_, _, 0, 0, false, rfl, rfl, rfl, HRg.out, HE2.out, Best.start HD.out⟩
      case round =>
        obtain ⟨left, cnt, best, most, found, rfl, rfl, rfl, hrg, hEi, hB⟩ := hrel
        have HB := hid hB
        have HEi := hid hEi
        have HRg2 := hid hrg
        clear hB hEi HRg HE2
        go_wp2_with (at_next; refine wpList_next_ranges_ii _ rfl _ rfl 3 3 .i64 .i64 kLaw Try.underlying3 Try.underlying3 b r l.length D left cnt rfl hrg ?_ ?_)
        · intro _ hl0
          have HL0 := hid hl0
          clear hl0 hrg
          go_wp2_with fail
          go_ret2
          exact ⟨(best, most), rfl, HB.out.done HL0.out, HEi.out⟩
        · intro x c w3 cnt3 hwx hwc hlx hat hrg3 hlt3 hg3 hs3 hen
          have hc := HD.out.at_ x
          rw [hat] at hc
          injection hc with hc
          injection hc with _ hc
          obtain ⟨hp, hyes, hno⟩ := HB.out.step HD.out hlx
          rw [← hc] at hyes hno
          have HYes := hid hyes
          have HNo := hid hno
          have HRg3 := hid hrg3
          have HE3 := hid ((Keep.of_grown hg3).toExt HEi.out (fun _ e => by rw [e]; exact n4))
          have HMe : Hid (w3.rangeLeft b r < wr.rangeLeft b r) := by
            unfold Hid
            rw [HRg3.out.left_eq, HRg2.out.left_eq]
            exact hlt3
          clear hwx hwc hlx hat hrg3 hg3 hs3 hc hp hyes hno hrg hlt3
          cases found
          · go_wp2_with fail
            go_roundw
            case rel => exact ⟨_, _, _, _, _, rfl, rfl, rfl, HRg3.out, HE3.out, HYes.out (.inl rfl)⟩
            case measure => exact HMe.out
          · by_cases h1 : most < c
            · go_wp2_with fail
              go_roundw
              case rel => exact ⟨_, _, _, _, _, rfl, rfl, rfl, HRg3.out, HE3.out, HYes.out (.inr (.inl h1))⟩
              case measure => exact HMe.out
            · by_cases h2 : c = most
              · by_cases h3 : x < best
                · go_wp2_with fail
                  go_roundw
                  case rel => exact ⟨_, _, _, _, _, rfl, rfl, rfl, HRg3.out, HE3.out, by have h := HYes.out (.inr (.inr ⟨h2, h3⟩)); rw [h2] at h; exact h⟩
                  case measure => exact HMe.out
                · go_wp2_with fail
                  go_roundw
                  case rel => exact ⟨_, _, _, _, _, rfl, rfl, rfl, HRg3.out, HE3.out, HNo.out (by simp; omega)⟩
                  case measure => exact HMe.out
              · go_wp2_with fail
                go_roundw
                case rel => exact ⟨_, _, _, _, _, rfl, rfl, rfl, HRg3.out, HE3.out, HNo.out (by simp; omega)⟩
                case measure => exact HMe.out
end Go.Proofs.Ytefgjkaoidifbaa
