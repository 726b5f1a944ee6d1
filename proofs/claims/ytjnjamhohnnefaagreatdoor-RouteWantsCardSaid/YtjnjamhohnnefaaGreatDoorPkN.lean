/-
  slices.Compact at numbers: the library's text walked (out of XCpt).
  slices.Sort of numbers, in the words of these texts.
  route.Reach.
-/
import Derived.Test.YtjnjamhohnnefaaGreatDoorPkG
import Derived.Test.YtjnjamhohnnefaaGreatDoorSrt
import Derived.Test.YtjnjamhohnnefaaGreatDoorSoU
import Derived.Test.YtjnjamhohnnefaaGreatDoorPkM
namespace Go.Proofs.YtjnjamhohnnefaaGreatDoor.CpI
open Go.RowKit
open Go.Lib hiding intOf

theorem zeroInt (w : World) : (zeroValue 3).run Tryz.prog w = .ok (.int .i64 0) w := by kernel_rfl

def CptPost (w : World) (B : Nat) (v : Value) (l : List Int) (en : Ending) (w' : World) : Prop :=
  ∃ v', en = .returned v' ∧ Keep (fun q => v.ownBlock = some q) w w' ∧ w'.ownsRow B 3 1 v' (compact l).length ((compact l).map intC).flatten ∧ v'.ownBlock = v.ownBlock ∧ (v = .slice none 0 0 → v' = .slice none 0 0)

/-- What the walk knows of the row. -/
structure CptIn (w wr : World) (g cap : Nat) (d : Array Int) : Prop where
  keep : Keep (fun q => q = g) w wr
  row : RowB intC 1 wr g 3 cap d
theorem CptIn.drewN {w wr : World} {g cap : Nat} {d : Array Int} (h : CptIn w wr g cap d) (n : Nat) : CptIn w (wr.drewN n) g cap d := ⟨h.keep.drewN n, h.row.ext (Ext.drewN _ _)⟩
theorem CptIn.cells {w wr : World} {g cap : Nat} {d : Array Int} (h : CptIn w wr g cap d) (j : Nat) (hj : j < d.size) : wr.cell? ⟨g, j, none⟩ = some (.int .i64 d[j]!) := by
  have := h.row.cell int_coded j 0 _ hj (by omega) rfl
  rwa [Nat.mul_one, Nat.add_zero] at this
theorem CptIn.store {w wr : World} {g cap : Nat} {d : Array Int} (h : CptIn w wr g cap d) (hn : d.size ≤ cap) (k : Nat) (hk : k < d.size) (x : Int) : CptIn w (wr.setCell ⟨g, k, none⟩ (.int .i64 x)) g cap (d.setIfInBounds k x) := by
  obtain ⟨h1, h2⟩ := h.row.store int_coded hn k hk x
  rw [Nat.mul_one] at h1 h2
  exact ⟨h.keep.trans h2, h1⟩
theorem CptIn.done {w wr : World} {g cap B : Nat} {d : Array Int} (h : CptIn w wr g cap d) (hb : B ≤ g) (hc : cap ≤ maxLen) (k : Nat) (l : List Int) (hl : d.toList = l) (hk : l.length = k) (hkc : k ≤ cap) : wr.ownsRow B 3 1 (.slice (some ⟨g, 0, none⟩) k cap) l.length (l.map intC).flatten := by
  obtain ⟨cs, b1, b2, b3⟩ := h.row
  subst hk
  refine ⟨int_coded.flat_len l, .inr ⟨g, cap, cs, rfl, hb, b1, hkc, hc, b2, ?_⟩⟩
  rw [← hl, ← b3]
  congr 2

set_option maxRecDepth 100000 in
set_option maxHeartbeats 2000000 in
theorem compact_c (w : World) (B : Nat) (v : Value) (l : List Int) (hl : l.length ≤ 1000000) (h : w.ownsRow B 3 1 v l.length (l.map intC).flatten) : Calls Tryz.prog 61 #[v] w (CptPost w B v l) := by
  by_cases h2 : l.length < 2
  · have hcpt : compact l = l := compact_all l fun j hj => keeps_lt_one _ j (by omega)
    have HP : Hid (∀ v', v' = v → CptPost w B v l (.returned v') w) := by
      rintro v' rfl
      exact ⟨_, rfl, Keep.refl _ _, by rw [hcpt]; exact h, rfl, fun h => h⟩
    clear hcpt
    rcases h.2 with ⟨rfl, h0⟩ | ⟨g, cap, cs, rfl, hb, hg, hn, hm, hsz, ht⟩
    all_goals
      clear h
      go_enter Tryz.func61, Tryz.ntmps61
      go_wp2_with fail
      go_ret
      first | done | exact HP.out _ rfl
  · rcases h.2 with ⟨rfl, h0⟩ | ⟨g, cap, cs, rfl, hb, hg, hn, hm, hsz, ht⟩
    · omega
    · have hI : CptIn w w g cap l.toArray := ⟨Keep.refl _ _, cs, hg, hsz, by simpa using ht⟩
      have HPost : Hid (∀ w' k, Keep (fun q => q = g) w w' → (compact l).length = k → w'.ownsRow B 3 1 (.slice (some ⟨g, 0, none⟩) k cap) (compact l).length ((compact l).map intC).flatten → CptPost w B (.slice (some ⟨g, 0, none⟩) l.length cap) l (.returned (.slice (some ⟨g, 0, none⟩) k cap)) w') :=
        fun w' k h1 _ h3 => ⟨_, rfl, h1.mono (fun q hq => by subst hq; rfl), h3, rfl, fun h => by cases h⟩
      have HAll : Hid ((∀ j, j < l.length → keeps l.toArray j = true) → compact l = l) := fun h => compact_all l h
      have HB := hid hb
      unfold maxLen at hm
      clear hg hsz ht h hb
      go_enter Tryz.func61, Tryz.ntmps61
      go_wp2_with fail
      go_loopw [3] (fun s3 wr => ∃ k : Nat, 1 ≤ k ∧ k ≤ l.length ∧ s3 = .int .i64 k ∧ CptIn w wr g cap l.toArray ∧ ∀ j, j < k → keeps l.toArray j = true) (fun s3 _ => l.length - (intOf s3).toNat)
      case atStart => exact ⟨1, Nat.le_refl _, by omega, rfl, hI, keeps_lt_one _⟩
      case round =>
        obtain ⟨k, hk1, hk, rfl, hJ, hall⟩ := hrel
        clear hI
        by_cases hlt : k < l.length
        · have c0 := hJ.cells k (by simpa using hlt)
          have p0 := hJ.cells (k - 1) (by simp; omega)
          have lg := hJ.row.lt
          have HJ := hid hJ
          have A := hid hall
          clear hall hJ
          generalize hx : l.toArray[k]! = x at c0
          generalize hy : l.toArray[k - 1]! = y at p0
          have HX := hid hx
          have HY := hid hy
          clear hx hy
          by_cases hdup : x = y
          · subst hdup
            have hne : (x == x) = true := by simp
            go_wp2_with fail
            go_quiet (fail)
            go_wp2_with fail
            clear c0 p0 lg
            have HB2 : Hid (keeps l.toArray k = false) := keeps_neg (by omega) (by rw [HX.out, HY.out])
            have HJ2 := hid (HJ.out.drewN nq)
            generalize World.drewN wr nq = W1 at HJ2 ⊢
            clear HJ HX HY
            go_loopw [3, 5] (fun s3 s5 wr => ∃ (kk k2 : Nat) (dk : Array Int), s3 = .int .i64 kk ∧ s5 = .int .i64 k2 ∧ 1 ≤ k2 ∧ k + k2 ≤ l.length ∧ CptIn w wr g cap dk ∧ CompInv l.toArray (k + k2) kk dk) (fun _ s5 _ => l.length - (intOf s5).toNat)
            case atStart => exact ⟨k, 1, l.toArray, rfl, rfl, Nat.le_refl _, by omega, HJ2.out, CompInv.start A.out HB2.out⟩
            case round =>
              obtain ⟨kk, k2, dk, rfl, rfl, h1, hle, hJ, hI⟩ := hrel
              clear HJ2 HB2
              have hkk := hI.lt
              have hds : dk.size = l.length := by simpa using hI.size
              by_cases hlt2 : k + k2 < l.length
              · have cm := hJ.cells (k + k2) (by omega)
                have cp := hJ.cells (k + k2 - 1) (by omega)
                have ck := hJ.cells kk (by omega)
                rw [hI.high (k + k2) (by omega)] at cm
                rw [hI.high (k + k2 - 1) (by omega)] at cp
                have ecp : (⟨g, k + k2 - 1, none⟩ : Addr) = ⟨g, k + (k2 - 1), none⟩ := by congr 1; omega
                rw [ecp] at cp
                clear ecp
                have fk := hJ.row.frozen kk
                have lg := hJ.row.lt
                have HJ := hid hJ
                have HI := hid hI
                have HD := hid hds
                clear hJ hI hds
                generalize hu : l.toArray[k + k2]! = u at cm
                generalize hv : l.toArray[k + k2 - 1]! = v at cp
                generalize dk[kk]! = o0 at ck
                have HU := hid hu
                have HV := hid hv
                clear hu hv
                by_cases huv : u = v
                · subst huv
                  have hne : (u == u) = true := by simp
                  go_wp2_with fail
                  go_quiet (fail)
                  go_wp2_with fail
                  exact ⟨⟨kk, k2 + 1, dk, rfl, by go_num, by omega, by omega, HJ.out.drewN _, HI.out.skip (keeps_neg (by omega) (by rw [HU.out, HV.out]))⟩, by simp [intOf]; omega⟩
                · have hkeep : Hid (keeps l.toArray (k + k2) = true) := keeps_pos (by rw [HU.out, HV.out]; exact huv)
                  have hne : (u == v) = false := by simp [huv]
                  clear huv
                  have ek2 : (k2 : Int) - 1 < ((l.length - k : Nat) : Int) := by omega
                  go_wp2_with fail
                  go_quiet (fail)
                  clear ek2
                  go_wp2_with fail
                  refine ⟨⟨kk + 1, k2 + 1, dk.setIfInBounds kk u, by go_num, by go_num, by omega, by omega, (HJ.out.drewN _).store (by rw [HD.out]; exact hn) kk (by rw [HD.out]; omega) u, ?_⟩, by simp [intOf]; omega⟩
                  have := HI.out.keep (by simpa using hlt2) hkeep.out
                  rwa [HU.out] at this
              · have hend : k + k2 = l.length := by omega
                obtain ⟨w2, hrun, hk2, hrow⟩ := row_clear (P := Tryz.prog) (ty := 0) int_elem zeroInt rfl (fun u hu => by simp [Value.cells] at hu; rcases hu with rfl; rfl) int_coded hJ.row (by rw [hds]; exact hn) kk (cap - kk) (by omega)
                rw [hds, Nat.mul_one] at hrun
                have HF : Hid (CptIn w w2 g cap (dk.extract 0 kk)) := ⟨hJ.keep.trans hk2, hrow⟩
                have HC : Hid ((dk.extract 0 kk).toList = compact l ∧ (compact l).length = kk) := by
                  have hI' : CompInv l.toArray l.toArray.size kk dk := by rw [List.size_toArray, ← hend]; exact hI
                  have e : compact l = compactUpTo l.toArray l.toArray.size := by unfold compact; rw [List.size_toArray]
                  rw [e]
                  refine ⟨List.ext_getElem? fun j => ?_, hI'.len⟩
                  rw [Array.toList_extract, List.extract_eq_take_drop, List.drop_zero, Nat.sub_zero, List.getElem?_take]
                  by_cases hj : j < kk
                  · rw [if_pos hj, hI'.low j hj, getElem!_pos dk j (by omega)]
                    simp
                  · rw [if_neg hj, List.getElem?_eq_none (by rw [hI'.len]; omega)]
                have HE := hid hend
                clear hend hJ hI hk2 hrow
                go_wp2_with fail
                go_ret
                exact HPost.out _ _ HF.out.keep HC.out.2 (HF.out.done HB.out (by unfold maxLen; omega) _ _ HC.out.1 HC.out.2 (by omega))
          · have hkeep : Hid (keeps l.toArray k = true) := keeps_pos (by rw [HX.out, HY.out]; exact hdup)
            have hne : (x == y) = false := by simp [hdup]
            clear hdup
            go_wp2_with fail
            go_quiet (fail)
            go_wp2_with fail
            exact ⟨⟨k + 1, by omega, by omega, by go_num, HJ.out.drewN _, fun j hj => by
              by_cases e : j = k
              · subst e; exact hkeep.out
              · exact A.out j (by omega)⟩, by simp [intOf]; omega⟩
        · obtain rfl : k = l.length := by omega
          have HJ := hid hJ
          have A := hid hall
          clear hall hJ
          go_wp2_with fail
          go_ret
          have e := HAll.out A.out
          refine HPost.out _ _ HJ.out.keep (by rw [e]) ?_
          rw [e]
          exact HJ.out.done HB.out (by unfold maxLen; omega) _ _ (by simp) rfl hn
end Go.Proofs.YtjnjamhohnnefaaGreatDoor.CpI
namespace Go.Proofs.YtjnjamhohnnefaaGreatDoor
set_option linter.unusedSimpArgs false
set_option linter.unusedVariables false
open Go.RowKit Go.Sort

theorem flatI (l : List Int) : (l.map intC).flatten = l.map (.int .i64) := by
  induction l with
  | nil => rfl
  | cons x l ih => rw [List.map_cons, List.flatten_cons, ih]; rfl
theorem sortI_c {w : World} {B : Nat} {v : Value} {l : List Int} (h : w.ownsRow B 3 1 v l.length (l.map intC).flatten) (hl : l.length ≤ 1000000) :
    Calls Tryz.prog 60 #[v] w fun en w' => en = .returned (.tuple #[]) ∧ Keep (fun q => v.ownBlock = some q) w w' ∧ ∃ l' : List Int, l'.Perm l ∧ l'.Pairwise (fun x y => x ≤ y) ∧ w'.ownsRow B 3 1 v l'.length (l'.map intC).flatten := by
  rcases h.2 with ⟨rfl, h0⟩ | ⟨g, cap, cs, rfl, hb, hg, h2, h3, h4, h5⟩
  · have : l = [] := List.eq_nil_of_length_eq_zero h0
    subst this
    exact (Tryz.slices_Sort_int_none none 0 w).mono fun en w' ⟨he, hw⟩ => ⟨he, hw ▸ Keep.refl _ _, [], List.Perm.refl _, List.Pairwise.nil, hw ▸ h⟩
  · have hB : Blk w g 3 cs := hg
    rw [flatI, Nat.mul_one] at h5
    rw [Nat.mul_one] at h4
    have hH : Holds (Value.int .i64) w g 0 l.toArray := fun j hj => by
      have hj' : j < l.length := by simpa using hj
      refine ⟨?_, hB.frozen _⟩
      rw [Nat.zero_add]
      refine hB.cell ?_
      have e1 : (cs.toList.take l.length)[j]? = (l.map (Value.int .i64))[j]? := by rw [h5]
      rw [List.getElem?_take, if_pos hj', Array.getElem?_toList] at e1
      rw [e1, getElem!_pos _ j hj, List.getElem?_map, List.getElem?_eq_getElem hj']
      simp only [Option.map_some, List.getElem_toArray]
    have hcon := Tryz.slices_Sort_int g 0 cap l w hH hB.lt (by omega)
    refine hcon.mono fun en w' ⟨he, n, os, hw⟩ => ?_
    subst hw
    obtain ⟨d, hd⟩ : ∃ d, d = l.mergeSort fun x y => decide (x ≤ y) := ⟨_, rfl⟩
    have hp : d.Perm l := by rw [hd]; exact List.mergeSort_perm _ _
    have hdl : d.length = l.length := hp.length_eq
    have hsrt : d.Pairwise fun a b => decide (a ≤ b) = true := by
      rw [hd]
      exact List.pairwise_mergeSort (fun a b c h1 h2 => by simp only [decide_eq_true_eq] at *; omega) (fun a b => by
        rcases Int.le_total a b with h | h
        · simp [h]
        · simp [h]) l
    rw [← hd]
    have hlt := hB.lt
    refine ⟨he, ⟨rfl, rfl, rfl, ?_, fun q hq hn => ?_⟩, d, hp, ?_, ?_⟩
    · simp [grow, putRow, mapBlock, Sort.ahead]
    · have hne : ¬ g = q := fun h => hn (by rw [h]; rfl)
      show ((w.heap.modify g (onCells (putCells (Value.int .i64) 0 d.toArray))) ++ os)[q]? = w.heap[q]?
      rw [Array.getElem?_append_left (by simpa using hq), Array.getElem?_modify, if_neg hne]
    · exact hsrt.imp fun {a b} hab => by simpa using hab
    · refine ⟨by rw [flatI]; simp, .inr ⟨g, cap, putCells (Value.int .i64) 0 d.toArray cs, ?_, hb, ?_, ?_, h3, ?_, ?_⟩⟩
      · rw [hdl]
      · show ((w.heap.modify g (onCells (putCells (Value.int .i64) 0 d.toArray))) ++ os)[g]? = _
        unfold Blk at hB
        rw [Array.getElem?_append_left (by simpa using hlt), Array.getElem?_modify, if_pos rfl, hB]
        rfl
      · rw [hdl]; exact h2
      · rw [Nat.mul_one]; simp [putCells, h4]
      · rw [flatI, Nat.mul_one]
        refine List.ext_getElem? fun t => ?_
        rw [List.getElem?_take]
        by_cases ht : t < d.length
        · have h2c : t < cs.size := by omega
          rw [if_pos ht, Array.getElem?_toList]
          unfold putCells
          rw [Array.getElem?_mapIdx, Array.getElem?_eq_getElem h2c]
          have h1 : t < d.toArray.size := by simpa using ht
          simp only [Option.map_some, Nat.zero_le, Nat.zero_add, true_and, h1, if_true, Nat.sub_zero]
          rw [getElem!_pos _ t h1, List.getElem?_map, List.getElem?_eq_getElem ht]
          simp
        · rw [if_neg ht, List.getElem?_eq_none (by simp; omega)]
end Go.Proofs.YtjnjamhohnnefaaGreatDoor
namespace Go.Proofs.YtjnjamhohnnefaaGreatDoor
set_option linter.unusedSimpArgs false
set_option linter.unusedVariables false
open Go.RowKit Go.Sort

def ltI (a b : Int) : Bool := decide (a < b)
theorem ltI_strict : Strict ltI := ⟨fun a => by simp [ltI], fun a b c h1 h2 => by simp only [ltI, decide_eq_true_eq] at *; omega, fun a b h1 h2 => by simp only [ltI, decide_eq_true_eq, decide_eq_false_iff_not] at *; omega⟩
theorem nums_srt (n : Nat) (P : Int → Bool) : SrtL ltI ((nums n).filter P) := by
  refine List.Pairwise.filter _ ?_
  unfold nums
  rw [List.pairwise_map]
  refine List.pairwise_lt_range.imp fun {a b} h => ?_
  simp only [ltI, decide_eq_true_eq]
  omega
/-- Whom a file comes to. -/
noncomputable def reachB (up : List Int) (Fl : List (List ClauseI)) (f : Int) (x : FileI) (r : Int) : Bool := decide (0 < (upT up Fl f).length) && (wantB Fl x r || decide (r ∈ upT up Fl f))
noncomputable def reachT (up : List Int) (Fl : List (List ClauseI)) (f : Int) (x : FileI) : List Int := someT up Fl (reachB up Fl f x)
theorem reachT_none {up : List Int} {Fl : List (List ClauseI)} {f : Int} {x : FileI} (h : (upT up Fl f).length = 0) : reachT up Fl f x = [] := by
  unfold reachT someT
  by_cases h0 : checkT up Fl = 0
  · rw [if_pos h0, List.filter_eq_nil_iff.2 fun r _ => ?_]
    unfold reachB
    rw [h]
    simp
  · rw [if_neg h0]
theorem reachT_set {up : List Int} {Fl : List (List ClauseI)} {f : Int} {x : FileI} (h : 0 < (upT up Fl f).length) : setL ltI (upT up Fl f ++ wantT up Fl x) = reachT up Fl f x := by
  have h0 : checkT up Fl = 0 := by
    refine Classical.byContradiction fun h0 => ?_
    unfold upT at h
    rw [if_neg h0] at h
    simp at h
  unfold reachT someT
  rw [if_pos h0]
  refine srtL_eq ltI_strict (setL_srt ltI_strict _) (nums_srt _ _) fun r => ?_
  rw [mem_setL ltI_strict, List.mem_append, List.mem_filter]
  unfold wantT someT reachB
  rw [if_pos h0, List.mem_filter, decide_eq_true h, Bool.true_and, Bool.or_eq_true, decide_eq_true_eq]
  constructor
  · rintro (h1 | ⟨h1, h2⟩)
    · refine ⟨mem_nums.2 (upL_in (r := f) ?_), .inr h1⟩
      rw [upT_yes h0] at h1
      exact h1
    · exact ⟨h1, .inl h2⟩
  · rintro ⟨h1, h2 | h2⟩
    · exact .inr ⟨h1, h2⟩
    · exact .inl h2
set_option maxRecDepth 100000 in
set_option maxHeartbeats 4000000 in
theorem reach39_c (w : World) (up : List Int) (Fl : List (List ClauseI)) (A AF : Option Addr) (c cF : Nat) (f : Int) (x : FileI) (h : TreeAt w up Fl A AF c cF) (hx : x.p.size ≤ 1000) : Calls Tryz.prog 40 #[.agg #[.slice A up.length c, .slice AF Fl.length cF], .int .i64 f, .agg #[.string x.p, .int .i64 x.size, .bool x.dead]] w (RetQ (fun v w' => Sl w' 1 v (Ints (reachT up Fl f x))) w) := by
  have HE0 := hid (Ext.alloc w (.cells #[.slice A up.length c, .slice AF Fl.length cF] 25))
  have HB0 := hid (Blk.new w 25 #[.slice A up.length c, .slice AF Fl.length cF])
  have HE1 := hid (HE0.out.alloc' (.cells #[.string x.p, .int .i64 x.size, .bool x.dead] 32))
  have HB1 := hid (HB0.out.alloc (.cells #[.string x.p, .int .i64 x.size, .bool x.dead] 32))
  have HX1 := hid (Blk.new (w.alloc (.cells #[.slice A up.length c, .slice AF Fl.length cF] 25)) 32 #[.string x.p, .int .i64 x.size, .bool x.dead])
  rw [World.size_alloc] at HX1
  have HUp := fun W (hW : Ext w W) => hid (up39_c W up Fl A AF c cF f (h.ext hW))
  have HWn := fun W (hW : Ext w W) => hid (wants39_c W up Fl A AF c cF x (h.ext hW) hx)
  have hl := h.l
  obtain ⟨h1, h2⟩ := h.cap
  obtain ⟨p1, p2⟩ := h.f.cap
  unfold maxLen at h2 p2
  have hLa := upT_len up Fl f
  have hLw := wantT_len up Fl x
  have HNo := hid (reachT_none (up := up) (Fl := Fl) (f := f) (x := x))
  have HSet := hid (reachT_set (up := up) (Fl := Fl) (f := f) (x := x))
  generalize reachT up Fl f x = R at HNo HSet ⊢
  generalize upT up Fl f = La at HUp hLa HNo HSet
  generalize wantT up Fl x = Lw at HWn hLw HSet
  clear h
  go_enter Tryz.func40, Tryz.ntmps40
  go_wp2_with fail
  generalize (w.alloc (.cells #[.slice A up.length c, .slice AF Fl.length cF] 25)).alloc (.cells #[.string x.p, .int .i64 x.size, .bool x.dead] 32) = w0 at HE1 HB1 HX1 ⊢
  generalize w.heap.size = g at HB1 HX1 ⊢
  have z0 := HB1.out.cell (i := 0) (v := .slice A up.length c) rfl
  have z1 := HB1.out.cell (i := 1) (v := .slice AF Fl.length cF) rfl
  have zl := HB1.out.lt
  refine ((HUp _ HE1.out).out).mono ?_
  rintro e w1 ⟨v1, rfl, hv1, x1⟩
  have X1 := hid (HE1.out.trans x1)
  have HB2 := hid (HB1.out.ext x1)
  have HX2 := hid (HX1.out.ext x1)
  clear HUp HB1 HX1 z0 z1 zl HB0 HE0
  by_cases hn : La.length = 0
  · obtain rfl := hv1.1 hn
    have hr := HNo.out hn
    subst hr
    clear hv1 x1
    go_wp2_with fail
    go_ret
    exact ⟨_, rfl, Sl.nil _ _, X1.out⟩
  · have HSet := hid (HSet.out (by omega))
    have HO1 := hid hv1
    obtain ⟨A1, c1, rfl, q1, q2, _⟩ := sl_get (code := intC) hv1.sl
    unfold maxLen at q2
    have dn : ((La.length : Int) == 0) = false := by simp; exact fun e => hn (by simp [e])
    have hE1 := HE1.out.size
    have h01 := x1.size
    clear hv1 x1 HNo
    have z0 := HB2.out.cell (i := 0) (v := .slice A up.length c) rfl
    have z1 := HB2.out.cell (i := 1) (v := .slice AF Fl.length cF) rfl
    have zl := HB2.out.lt
    have f0 := HX2.out.cell (i := 0) (v := .string x.p) rfl
    have f1 := HX2.out.cell (i := 1) (v := .int .i64 x.size) rfl
    have f2 := HX2.out.cell (i := 2) (v := .bool x.dead) rfl
    have fl := HX2.out.lt
    go_wp2_with fail
    refine ((HWn _ X1.out).out).mono ?_
    rintro e w2 ⟨v2, rfl, hv2, x2⟩
    have X2 := hid (X1.out.trans x2)
    obtain ⟨v3, w3, hrun, hO3, hk3⟩ := (HO1.out.ext x2).app (Nat.le_trans h01 x2.size) hv2.sl (by omega) (by omega)
    have X3 : Hid (Ext w w3) := (HO1.out.ext x2).to hk3 X2.out hE1
    have HO3 := hid hO3
    obtain ⟨A2, c2, rfl, q3, q4, _⟩ := sl_get (code := intC) hv2.sl
    unfold maxLen at q4
    clear x2 hv2 hO3 hk3 HWn HB2 HX2 z0 z1 zl f0 f1 f2 fl hn dn
    go_wp2_with (at_builtin; refine wpList_app rfl (.tmp 15) (.tmp 18) _ _ rfl rfl rfl hrun ?_)
    refine (sortI_c HO3.out.2 (by simp; omega)).mono ?_
    rintro e w4 ⟨rfl, hk4, l4, hp4, hs4, ho4⟩
    have X4 : Hid (Ext w w4) := hk4.toExt X3.out fun q hq => Nat.le_trans hE1 (row_block HO3.out.2 q hq).1
    have HO4 := hid ho4
    have HP4 := hid hp4
    have HS4 := hid hs4
    have hl4 : l4.length ≤ 1000000 := by rw [hp4.length_eq]; simp; omega
    clear hk4 hp4 hs4 ho4 hrun
    go_wp2_with fail
    refine (CpI.compact_c _ _ _ l4 hl4 HO4.out).mono ?_
    rintro e w5 ⟨v5, rfl, hk5, ho5, _, _⟩
    have X5 : Hid (Ext w w5) := hk5.toExt X4.out fun q hq => Nat.le_trans hE1 (row_block HO4.out q hq).1
    have HV : Hid (Sl w5 1 v5 (Ints R)) := by
      have e := compact_sorted ltI_strict HP4.out (HS4.out.imp fun {a b} hab => by simp only [ltI, decide_eq_false_iff_not]; omega)
      rw [e, HSet.out] at ho5
      have := sl_of_row (xs := R.map intC) (int_coded.sizes _) (by rw [List.length_map]; exact ho5)
      exact this
    clear hk5 ho5
    go_wp2_with fail
    go_ret
    exact ⟨_, rfl, HV.out, X5.out⟩
end Go.Proofs.YtjnjamhohnnefaaGreatDoor
