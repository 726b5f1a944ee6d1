/-
  slices.Compact at versions: the library's text walked.
-/
import Derived.Test.YtjbpdepeimgocaaProg
import Derived.Test.YtjbpdepeimgocaaRow
import Derived.Test.YtjbpdepeimgocaaVerR
import Derived.Test.YtjbpdepeimgocaaVrE
import Derived.Test.YtjbpdepeimgocaaSrt
namespace Go.Proofs.Ytjbpdepeimgocaa
set_option linter.unusedSimpArgs false
set_option linter.unusedVariables false
open Go.RowKit Go.Lib

instance : Inhabited Ver := ⟨⟨0, 0⟩⟩
theorem ver_coded : Coded Ver.cells 2 := ⟨fun _ => rfl, fun a u hu => by simp [Ver.cells] at hu; rcases hu with rfl | rfl <;> rfl⟩
theorem ver_info : (Try.prog.info? 26).map (fun i => (i.zero, i.size, i.bytes)) = some (some (.agg #[.int .i64 0, .int .i64 0]), 2, 16) := by kernel_rfl
theorem ver_elem : Elem Try.prog 50 26 2 16 := by
  obtain ⟨i0, h0, h1, h2, h3⟩ := info_parts ver_info
  exact ⟨Try.underlying50, i0, _, h0, h1, h2, h3, rfl⟩
theorem zeroVer (w : World) : (zeroValue 26).run Try.prog w = .ok (.agg #[.int .i64 0, .int .i64 0]) w := by kernel_rfl

def CptPost (w : World) (B : Nat) (v : Value) (l : List Ver) (en : Ending) (w' : World) : Prop :=
  ∃ v', en = .returned v' ∧ Keep (fun q => v.ownBlock = some q) w w' ∧ w'.ownsRow B 26 2 v' (compact l).length ((compact l).map Ver.cells).flatten ∧ v'.ownBlock = v.ownBlock ∧ (v = .slice none 0 0 → v' = .slice none 0 0)

/-- What the walk knows of the row. -/
structure CptIn (w wr : World) (g cap : Nat) (d : Array Ver) : Prop where
  keep : Keep (fun q => q = g) w wr
  row : RowB Ver.cells 2 wr g 26 cap d
theorem CptIn.drewN {w wr : World} {g cap : Nat} {d : Array Ver} (h : CptIn w wr g cap d) (n : Nat) : CptIn w (wr.drewN n) g cap d := ⟨h.keep.drewN n, h.row.ext (Ext.drewN _ _)⟩
theorem CptIn.cells {w wr : World} {g cap : Nat} {d : Array Ver} (h : CptIn w wr g cap d) (j : Nat) (hj : j < d.size) : wr.cell? ⟨g, j * 2, none⟩ = some (.int .i64 (d[j]!).by_) ∧ wr.cell? ⟨g, j * 2 + 1, none⟩ = some (.int .i64 (d[j]!).n) :=
  ⟨h.row.cell ver_coded j 0 _ hj (by omega) rfl, h.row.cell ver_coded j 1 _ hj (by omega) rfl⟩
theorem CptIn.store {w wr : World} {g cap : Nat} {d : Array Ver} (h : CptIn w wr g cap d) (hn : d.size ≤ cap) (k : Nat) (hk : k < d.size) (x : Ver) : CptIn w ((wr.setCell ⟨g, k * 2, none⟩ (.int .i64 x.by_)).setCell ⟨g, k * 2 + 1, none⟩ (.int .i64 x.n)) g cap (d.setIfInBounds k x) := by
  obtain ⟨h1, h2⟩ := h.row.store ver_coded hn k hk x
  exact ⟨h.keep.trans h2, h1⟩
theorem CptIn.done {w wr : World} {g cap B : Nat} {d : Array Ver} (h : CptIn w wr g cap d) (hb : B ≤ g) (hc : cap ≤ maxLen) (k : Nat) (l : List Ver) (hl : d.toList = l) (hk : l.length = k) (hkc : k ≤ cap) : wr.ownsRow B 26 2 (.slice (some ⟨g, 0, none⟩) k cap) l.length (l.map Ver.cells).flatten := by
  obtain ⟨cs, b1, b2, b3⟩ := h.row
  subst hk
  refine ⟨ver_coded.flat_len l, .inr ⟨g, cap, cs, rfl, hb, b1, hkc, hc, b2, ?_⟩⟩
  rw [← hl, ← b3]
  congr 2

set_option maxRecDepth 100000 in
set_option maxHeartbeats 2000000 in
theorem compact_c (w : World) (B : Nat) (v : Value) (l : List Ver) (hl : l.length ≤ 1000000) (h : w.ownsRow B 26 2 v l.length (l.map Ver.cells).flatten) : Calls Try.prog 33 #[v] w (CptPost w B v l) := by
  by_cases h2 : l.length < 2
  · have hcpt : compact l = l := compact_all l fun j hj => keeps_lt_one _ j (by omega)
    have HP : Hid (∀ v', v' = v → CptPost w B v l (.returned v') w) := by
      rintro v' rfl
      exact ⟨_, rfl, Keep.refl _ _, by rw [hcpt]; exact h, rfl, fun h => h⟩
    clear hcpt
    rcases h.2 with ⟨rfl, h0⟩ | ⟨g, cap, cs, rfl, hb, hg, hn, hm, hsz, ht⟩
    all_goals
      clear h
      go_enter Try.func33, Try.ntmps33
      go_wp2_with fail
      go_ret
      first | done | exact HP.out _ rfl
  · rcases h.2 with ⟨rfl, h0⟩ | ⟨g, cap, cs, rfl, hb, hg, hn, hm, hsz, ht⟩
    · omega
    · have hI : CptIn w w g cap l.toArray := ⟨Keep.refl _ _, cs, hg, hsz, by simpa using ht⟩
      have HPost : Hid (∀ w' k, Keep (fun q => q = g) w w' → (compact l).length = k → w'.ownsRow B 26 2 (.slice (some ⟨g, 0, none⟩) k cap) (compact l).length ((compact l).map Ver.cells).flatten → CptPost w B (.slice (some ⟨g, 0, none⟩) l.length cap) l (.returned (.slice (some ⟨g, 0, none⟩) k cap)) w') :=
        fun w' k h1 _ h3 => ⟨_, rfl, h1.mono (fun q hq => by subst hq; rfl), h3, rfl, fun h => by cases h⟩
      have HAll : Hid ((∀ j, j < l.length → keeps l.toArray j = true) → compact l = l) := fun h => compact_all l h
      have HB := hid hb
      unfold maxLen at hm
      clear hg hsz ht h hb
      go_enter Try.func33, Try.ntmps33
      go_wp2_with fail
      go_loopw [3] (fun s3 wr => ∃ k : Nat, 1 ≤ k ∧ k ≤ l.length ∧ s3 = .int .i64 k ∧ CptIn w wr g cap l.toArray ∧ ∀ j, j < k → keeps l.toArray j = true) (fun s3 _ => l.length - (intOf s3).toNat)
      case atStart => exact ⟨1, Nat.le_refl _, by omega, rfl, hI, keeps_lt_one _⟩
      case round =>
        obtain ⟨k, hk1, hk, rfl, hJ, hall⟩ := hrel
        clear hI
        by_cases hlt : k < l.length
        · obtain ⟨c0, c1⟩ := hJ.cells k (by simpa using hlt)
          obtain ⟨p0, p1⟩ := hJ.cells (k - 1) (by simp; omega)
          have lg := hJ.row.lt
          have HJ := hid hJ
          have A := hid hall
          clear hall hJ
          generalize hx : l.toArray[k]! = x at c0 c1
          generalize hy : l.toArray[k - 1]! = y at p0 p1
          have HX := hid hx
          have HY := hid hy
          clear hx hy
          by_cases hdup : x = y
          · subst hdup
            have hne := eq2_self x.by_ x.n
            go_wp2_with fail
            go_quiet (fail)
            go_wp2_with fail
            clear c0 c1 p0 p1 lg
            have HB2 : Hid (keeps l.toArray k = false) := keeps_neg (by omega) (by rw [HX.out, HY.out])
            have HJ2 := hid (HJ.out.drewN nq)
            generalize World.drewN wr nq = W1 at HJ2 ⊢
            clear HJ HX HY
            go_loopw [3, 5] (fun s3 s5 wr => ∃ (kk k2 : Nat) (dk : Array Ver), s3 = .int .i64 kk ∧ s5 = .int .i64 k2 ∧ 1 ≤ k2 ∧ k + k2 ≤ l.length ∧ CptIn w wr g cap dk ∧ CompInv l.toArray (k + k2) kk dk) (fun _ s5 _ => l.length - (intOf s5).toNat)
            case atStart => exact ⟨k, 1, l.toArray, rfl, rfl, Nat.le_refl _, by omega, HJ2.out, CompInv.start A.out HB2.out⟩
            case round =>
              obtain ⟨kk, k2, dk, rfl, rfl, h1, hle, hJ, hI⟩ := hrel
              clear HJ2 HB2
              have hkk := hI.lt
              have hds : dk.size = l.length := by simpa using hI.size
              by_cases hlt2 : k + k2 < l.length
              · have cm := hJ.cells (k + k2) (by omega)
                have cp := hJ.cells (k + k2 - 1) (by omega)
                obtain ⟨ck, ck1⟩ := hJ.cells kk (by omega)
                rw [hI.high (k + k2) (by omega), show (k + k2) * 2 = k * 2 + k2 * 2 by omega] at cm
                rw [hI.high (k + k2 - 1) (by omega), show (k + k2 - 1) * 2 = k * 2 + (k2 - 1) * 2 by omega] at cp
                obtain ⟨cm0, cm1⟩ := cm
                obtain ⟨cp0, cp1⟩ := cp
                have fk := hJ.row.frozen (kk * 2)
                have fk1 := hJ.row.frozen (kk * 2 + 1)
                have lg := hJ.row.lt
                have HJ := hid hJ
                have HI := hid hI
                have HD := hid hds
                clear hJ hI hds
                generalize hu : l.toArray[k + k2]! = u at cm0 cm1
                generalize hv : l.toArray[k + k2 - 1]! = v at cp0 cp1
                generalize (dk[kk]!).by_ = o0 at ck
                generalize (dk[kk]!).n = o1 at ck1
                have HU := hid hu
                have HV := hid hv
                clear hu hv
                by_cases huv : u = v
                · subst huv
                  have hne := eq2_self u.by_ u.n
                  go_wp2_with fail
                  go_quiet (fail)
                  go_wp2_with fail
                  exact ⟨⟨kk, k2 + 1, dk, rfl, by go_num, by omega, by omega, HJ.out.drewN _, HI.out.skip (keeps_neg (by omega) (by rw [HU.out, HV.out]))⟩, by simp [intOf]; omega⟩
                · have hkeep : Hid (keeps l.toArray (k + k2) = true) := keeps_pos (by rw [HU.out, HV.out]; exact huv)
                  have hne : eq2 u.by_ u.n v.by_ v.n = false := by rw [Bool.eq_false_iff, Ne, eq2_iff]; exact huv
                  clear huv
                  have ek2 : (k2 : Int) - 1 < ((l.length - k : Nat) : Int) := by omega
                  go_wp2_with fail
                  go_quiet (fail)
                  clear ek2
                  go_wp2_with fail
                  refine ⟨⟨kk + 1, k2 + 1, dk.setIfInBounds kk u, by go_num, by go_num, by omega, by omega, (HJ.out.drewN _).store (by rw [HD.out]; exact hn) kk (by rw [HD.out]; omega) u, ?_⟩, by simp [intOf]; omega⟩
                  have := HI.out.keep (by simpa using hlt2) hkeep.out
                  rwa [HU.out] at this
              · have hend : k + k2 = l.length := by omega
                obtain ⟨w2, hrun, hk2, hrow⟩ := row_clear (P := Try.prog) (ty := 0) ver_elem zeroVer rfl (fun u hu => by simp [Value.cells] at hu; rcases hu with rfl | rfl <;> rfl) ver_coded hJ.row (by rw [hds]; exact hn) kk (cap - kk) (by omega)
                rw [hds] at hrun
                have HF : Hid (CptIn w w2 g cap (dk.extract 0 kk)) := ⟨hJ.keep.trans hk2, hrow⟩
                have HC : Hid ((dk.extract 0 kk).toList = compact l ∧ (compact l).length = kk) := by
                  have hI' : CompInv l.toArray l.toArray.size kk dk := by rw [List.size_toArray, ← hend]; exact hI
                  have e : compact l = compactUpTo l.toArray l.toArray.size := by unfold compact; rw [List.size_toArray]
                  rw [e]
                  refine ⟨List.ext_getElem? fun j => ?_, hI'.len⟩
                  rw [Array.toList_extract, List.extract_eq_take_drop, List.drop_zero, Nat.sub_zero, List.getElem?_take]
                  by_cases hj : j < kk
                  · rw [if_pos hj, hI'.low j hj, getElem!_pos dk j (by omega)]
                    simp
                  · rw [if_neg hj, List.getElem?_eq_none (by rw [hI'.len]; omega)]
                have HE := hid hend
                clear hend hJ hI hk2 hrow
                go_wp2_with fail
                go_ret
                exact HPost.out _ _ HF.out.keep HC.out.2 (HF.out.done HB.out (by unfold maxLen; omega) _ _ HC.out.1 HC.out.2 (by omega))
          · have hkeep : Hid (keeps l.toArray k = true) := keeps_pos (by rw [HX.out, HY.out]; exact hdup)
            have hne : eq2 x.by_ x.n y.by_ y.n = false := by rw [Bool.eq_false_iff, Ne, eq2_iff]; exact hdup
            clear hdup
            go_wp2_with fail
            go_quiet (fail)
            go_wp2_with fail
            exact ⟨⟨k + 1, by omega, by omega, by go_num, HJ.out.drewN _, fun j hj => by
              by_cases e : j = k
              · subst e; exact hkeep.out
              · exact A.out j (by omega)⟩, by simp [intOf]; omega⟩
        · obtain rfl : k = l.length := by omega
          have HJ := hid hJ
          have A := hid hall
          clear hall hJ
          go_wp2_with fail
          go_ret
          have e := HAll.out A.out
          refine HPost.out _ _ HJ.out.keep (by rw [e]) ?_
          rw [e]
          exact HJ.out.done HB.out (by unfold maxLen; omega) _ _ (by simp) rfl hn
end Go.Proofs.Ytjbpdepeimgocaa
