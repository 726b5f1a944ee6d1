/-
  Knowledge that was cut, and knowledge that was read, can be laid.
  awake of chapter 17; answer; Light.
  answer of chapter 17.
  The law PackKnows: its walk.
-/
import Derived.Test.YtmbgakjkhgdjnaaGreatDoorQcE
import Derived.Test.YtmbgakjkhgdjnaaGreatDoorQcF
import Derived.Test.YtmbgakjkhgdjnaaGreatDoorQdH
import Derived.Test.YtmbgakjkhgdjnaaGreatDoorQbG
namespace Go.Proofs.YtmbgakjkhgdjnaaGreatDoor
set_option linter.unusedSimpArgs false
set_option linter.unusedVariables false
open Go.RowKit

theorem saneF_ok {f : List ClauseI} : ∀ c ∈ saneF f, ClauseOk c := fun c hc => by
  unfold saneF at hc
  exact rightC_ok (List.mem_filter.1 hc).2
theorem saneF_cut (x : FragI) : (saneFrag x).f.length ≤ 24 := by
  unfold saneFrag saneF
  refine Nat.le_trans (List.length_filter_le _ _) ?_
  cases h : lightF x.f with
  | true => rw [if_pos rfl]; exact (lightF_iff.1 h).2
  | false => rw [if_neg Bool.false_ne_true]; exact Nat.zero_le _
theorem verB_any {y : Ver} (h : ver64 y) : (verB y).size ≤ 18 := verB_18 h.1 h.2
theorem vecs_le {v : List Int} (h : in64L v) : (textB (listB verB (endsL v))).size ≤ 1800 := by
  have h1 := listB_len verB (endsL v) 18 65 (by decide) (endsL_len v) (by decide) (fun y hy => verB_okle (endsL_ok h y hy))
  have h2 : (listB verB (endsL v)).size ≤ 1764 := by rw [listB_size]; omega
  have h3 := textB_le (listB verB (endsL v)) (by omega)
  omega
theorem saneK_good {k : KnowI} (h : KnowIn k) : KnowG (saneK k) := by
  refine ⟨⟨fun x hx => ?_, fun x hx c hc => ?_, fun x hx => ?_⟩, fun x hx => ?_⟩
  · obtain ⟨y, hy, rfl⟩ := List.mem_map.1 hx
    have hi := h.fs y (List.mem_of_mem_take hy)
    exact ⟨hi.v, fun z hz => hi.n z (List.mem_of_mem_take hz), by show (y.n.take 12).length ≤ _; rw [List.length_take]; omega⟩
  · obtain ⟨y, hy, rfl⟩ := List.mem_map.1 hx
    have := (saneF_ok c hc).pre
    omega
  · have hi := h.ks x (List.mem_of_mem_take hx)
    exact ⟨hi.v, hi.i⟩
  · obtain ⟨y, hy, rfl⟩ := List.mem_map.1 hx
    exact (h.fs y (List.mem_of_mem_take hy)).len
theorem saneK_size {k : KnowI} (h : KnowIn k) : (knowB (saneK k)).size ≤ 50000 := by
  have hg := saneK_good h
  have hf : ∀ x ∈ (saneK k).fs, (fragB x).size ≤ 4100 := fun x hx => by
    have ho := hg.ok.fs x hx
    obtain ⟨y, hy, rfl⟩ := List.mem_map.1 hx
    have h1 := listB_len clB (saneFrag y).f 70 24 (by decide) (saneF_cut y) (by decide) (fun c hc => (clB_size (saneF_ok c hc)).2)
    have h2 : (listB clB (saneFrag y).f).size ≤ 1905 := by rw [listB_size]; omega
    have h3 := textB_le (listB clB (saneFrag y).f) (by omega)
    have h4 := vecs_le ho.v
    have h5 := listB_len verB (saneFrag y).n 18 12 (by decide) (by show (y.n.take 12).length ≤ _; rw [List.length_take]; omega) (by decide) (fun c hc => verB_any (ho.n c hc))
    have h6 : (listB verB (saneFrag y).n).size ≤ 333 := by rw [listB_size]; omega
    have h7 := textB_le (listB verB (saneFrag y).n) (by omega)
    unfold fragB
    rw [ByteArray.size_append, ByteArray.size_append]
    omega
  have hk : ∀ x ∈ (saneK k).ks, (knownB x).size ≤ 1900 := fun x hx => by
    have ho := hg.ok.ks x hx
    have h4 := vecs_le ho.v
    have h5 := verB_any ho.i
    unfold knownB
    rw [ByteArray.size_append]
    omega
  have a1 := listB_len fragB (saneK k).fs 4100 6 (by decide) (by show ((k.fs.take 6).map saneFrag).length ≤ _; rw [List.length_map, List.length_take]; omega) (by decide) hf
  have a2 : (listB fragB (saneK k).fs).size ≤ 25000 := by rw [listB_size]; omega
  have a3 := textB_le (listB fragB (saneK k).fs) (by omega)
  have b1 := listB_len knownB (saneK k).ks 1900 12 (by decide) (by show (k.ks.take 12).length ≤ _; rw [List.length_take]; omega) (by decide) hk
  have b2 : (listB knownB (saneK k).ks).size ≤ 23000 := by rw [listB_size]; omega
  have b3 := textB_le (listB knownB (saneK k).ks) (by omega)
  unfold knowB
  rw [ByteArray.size_append]
  omega
theorem saneK_lay {k : KnowI} (h : KnowIn k) : KnowR (saneK k) := by
  have hg := saneK_good h
  refine ⟨fun x hx => ?_, hg.ok, by have := saneK_size h; omega⟩
  obtain ⟨y, hy, rfl⟩ := List.mem_map.1 hx
  refine ⟨by have := saneF_cut y; omega, fun c hc => ?_⟩
  have h1 := saneF_ok c hc
  have h2 := h1.pre; have h3 := h1.lo; have h4 := h1.hi
  exact ⟨by omega, ⟨by omega, by omega⟩, ⟨by omega, by omega⟩⟩
/-- What was read, and may be. -/
theorem read_lay {k : KnowI} (hg : KnowG k) (hm : mayB k = true) (hs : (knowB k).size ≤ 90000) : KnowR k := by
  obtain ⟨h1, _, _, _⟩ := mayB_parts hm
  refine ⟨fun x hx => ?_, hg.ok, hs⟩
  have h2 := h1 x hx
  unfold mayF at h2
  simp only [Bool.and_eq_true] at h2
  obtain ⟨h3, h4⟩ := clausesB_ok h2.1
  refine ⟨by omega, fun c hc => ?_⟩
  have h5 := h4 c hc
  have h6 := h5.pre; have h7 := h5.lo; have h8 := h5.hi
  exact ⟨by omega, ⟨by omega, by omega⟩, ⟨by omega, by omega⟩⟩
theorem putX_fit {b : Bool} {s : ByteArray} (h : s.size ≤ 65536) : putX b s = putB b s ∧ errX b s = okZ b := by
  unfold putX errX putB okZ capB
  cases b with
  | false => exact ⟨rfl, rfl⟩
  | true => rw [if_pos rfl, if_pos rfl, if_pos h, if_pos h]; exact ⟨rfl, rfl⟩
end Go.Proofs.YtmbgakjkhgdjnaaGreatDoor
namespace Go.Proofs.YtmbgakjkhgdjnaaGreatDoor
set_option linter.unusedSimpArgs false
set_option linter.unusedVariables false
open Go.RowKit

/-- The vector of awake. -/
def vecE : List Int := vec0.set 1 5
theorem vecE_len : vecE.length = 65 := by unfold vecE vec0; simp
theorem vecE_of : ofL [⟨1, 5⟩] = vecE := by decide
theorem vecE_clean : vecE = cleanL vecE := by decide
theorem vecE_ends : endsL vecE = [⟨1, 5⟩] := by decide
theorem vecE_in : in64L vecE := by
  intro z hz
  rcases List.mem_or_eq_of_mem_set hz with hz | rfl
  · exact vec0_in z hz
  · unfold in64; omega
theorem bytesE : listB verB (endsL vecE) = ⟨#[1, 2, 1, 5]⟩ := by
  rw [vecE_ends]
  have hv : okVer ⟨1, 5⟩ := ⟨by decide, by decide, by decide, by decide⟩
  have h1 : (verB ⟨1, 5⟩).data.toList = [1, 5] := by
    rw [verB_list hv]
    show lebL 1 ++ (lebL 5 ++ []) = _
    rw [lebL_small (by omega), lebL_small (by omega)]; rfl
  have h2 : (verB ⟨1, 5⟩).size = 2 := by
    have : (verB ⟨1, 5⟩).data.toList.length = (verB ⟨1, 5⟩).size := by rw [Array.length_toList]; rfl
    rw [← this, h1]; rfl
  apply ByteArray.ext
  apply Array.ext'
  show encL (fN 1 :: [fT (verB ⟨1, 5⟩)]) = [1, 2, 1, 5]
  rw [encL_cons, encL_cons]
  show lebL 1 ++ ((lebL (verB ⟨1, 5⟩).size ++ (verB ⟨1, 5⟩).data.toList) ++ []) = _
  rw [h1, h2, lebL_small (by omega), lebL_small (by omega)]; rfl
attribute [-simp] Tryz.isAgg44 Tryz.sizeOf44
set_option maxRecDepth 100000 in
set_option maxHeartbeats 4000000 in
theorem awake17_c (w : World) : Calls Tryz.prog 9 #[] w (Ret (.bool true) w) := by
  have HOf := fun W u (h : Sl W 2 u ([⟨1, 5⟩].map Ver.cells)) => hid (of13_c W u [⟨1, 5⟩] h)
  rw [vecE_of] at HOf
  have HPu := fun W => hid (putV_c W vecE vecE_len vecE_in)
  rw [decide_eq_true vecE_clean, bytesE] at HPu
  have HGe := fun W => hid (getV_back W vecE vecE_len vecE_in vecE_clean)
  rw [bytesE] at HGe
  have HEq := fun W => run_eq_vec vecE vecE vecE_len vecE_len W
  rw [decide_eq_true rfl] at HEq
  have HL := hid vecE_len
  have HZ : Hid (vec0.length = 65) := by unfold Hid; simp [vec0]
  have HSl : Hid (Sl (w.alloc (.cells #[.int .i64 1, .int .i64 5] 60)) 2 (.slice (some ⟨w.heap.size, 0, none⟩) 1 1) ([⟨1, 5⟩].map Ver.cells)) := Sl.of_flat (Blk.new w _ _) ⟨[], by simp [Ver.cells]⟩ (by simp [Ver.cells]) rfl (Nat.le_refl _) (by unfold maxLen; omega)
  have HE0 := hid (Ext.alloc w (.cells #[.int .i64 1, .int .i64 5] 60))
  generalize vecE = u at HOf HPu HGe HEq HL
  go_enter Tryz.func9, Tryz.ntmps9
  go_wp2_with fail
  refine ((HOf _ _ HSl.out).out).mono ?_
  rintro en w1 ⟨rfl, x1⟩
  have HE1 := hid ((HE0.out.trans x1).alloc' (.cells (vecV vec0) 44))
  have HB1 := hid (Blk.new w1 44 (vecV vec0))
  have x1s := (HE0.out.trans x1).size
  clear x1 HSl HE0 HOf
  go_wp2_with fail
  simp only [Tryz.sizeOf44, Result.andThen, ↓reduceIte, run_storeCells_blk HB1.out (by rw [vecV_size, HL.out]; exact vec_size) (by first | rfl | (rw [vecV_size, vecV_size, HL.out]; exact HZ.out)) (vecV_one _), show (vecV _).size = 65 from (vecV_size _).trans HL.out]
  rw [Oper.upon_skip]
  have HB2 := hid (HB1.out.setRow (vecV u))
  have HE2 := hid (HE1.out.setRow (g := w1.heap.size) (by have := HE1.out.size; rw [World.size_alloc] at this; have := x1s; omega) (vecV u))
  clear HB1 HE1
  obtain ⟨g, hg⟩ : ∃ g, w1.heap.size = g := ⟨_, rfl⟩
  generalize (w1.alloc (.cells (vecV vec0) 44)).setRow w1.heap.size (vecV u) = w2 at HB2 HE2 ⊢
  rw [hg] at HB2 ⊢
  clear hg x1s
  go_wp2_with fail
  simp only [Tryz.isAgg44, Tryz.sizeOf44, Result.andThen, ↓reduceIte, run_loadCells_blk HB2.out 65 (by rw [vecV_size]; exact HL.out)]
  rw [Oper.upon_value]
  go_wp2_with fail
  refine ((HPu _).out).mono ?_
  rintro en w3 ⟨rfl, x3⟩
  have HB3 := hid (HB2.out.ext x3)
  have HE3 := hid (HE2.out.trans x3)
  clear HB2 HE2 x3 HPu
  rw [show putB true (⟨#[1, 2, 1, 5]⟩ : ByteArray) = ⟨#[1, 2, 1, 5]⟩ from rfl, show okZ true = 0 from rfl]
  go_wp2_with fail
  refine ((HGe _).out).mono ?_
  rintro en w4 ⟨rfl, x4⟩
  have HB4 := hid ((HB3.out.ext x4).alloc (.cells (vecV vec0) 44))
  have HC4 := hid (Blk.new w4 44 (vecV vec0))
  have HE4 := hid ((HE3.out.trans x4).alloc' (.cells (vecV vec0) 44))
  have HG : Hid (g < w4.heap.size) := (HB3.out.ext x4).lt
  have HW : Hid (w.heap.size ≤ w4.heap.size) := (HE3.out.trans x4).size
  clear HB3 HE3 x4 HGe
  go_wp2_with fail
  simp only [Tryz.sizeOf44, Result.andThen, ↓reduceIte, run_storeCells_blk HC4.out (by rw [vecV_size, HL.out]; exact vec_size) (by first | rfl | (rw [vecV_size, vecV_size, HL.out]; exact HZ.out)) (vecV_one _), show (vecV _).size = 65 from (vecV_size _).trans HL.out]
  rw [Oper.upon_skip]
  have HC5 := hid (HC4.out.setRow (vecV u))
  have HB5 := hid (HB4.out.farRow (k := w4.heap.size) (by have := HG.out; omega) (vecV u))
  have HE5 := hid (HE4.out.setRow HW.out (vecV u))
  generalize (w4.alloc (.cells (vecV vec0) 44)).setRow w4.heap.size (vecV u) = w5 at HC5 HB5 HE5 ⊢
  clear HC4 HB4 HE4
  go_wp2_with fail
  simp only [Tryz.isAgg44, Tryz.sizeOf44, Result.andThen, ↓reduceIte, run_loadCells_blk HC5.out 65 (by rw [vecV_size]; exact HL.out)]
  rw [Oper.upon_value]
  go_wp2_with fail
  simp only [Tryz.isAgg44, Tryz.sizeOf44, Result.andThen, ↓reduceIte, run_loadCells_blk HB5.out 65 (by rw [vecV_size]; exact HL.out)]
  rw [Oper.upon_value]
  go_wp2_with fail
  go_ret
  exact ⟨rfl, HE5.out⟩
end Go.Proofs.YtmbgakjkhgdjnaaGreatDoor
namespace Go.Proofs.YtmbgakjkhgdjnaaGreatDoor
set_option linter.unusedSimpArgs false
set_option linter.unusedVariables false
open Go.RowKit

set_option maxRecDepth 100000 in
set_option maxHeartbeats 1000000 in
theorem answer17_c (w : World) (b : Bool) (s : ByteArray) : Calls Tryz.prog 11 #[.string (putB b s), .int .i64 (okZ b), .bool b, .string s] w (Ret (.bool true) w) := by
  cases b with
  | false =>
    rw [show putB false s = ⟨#[]⟩ from rfl, show okZ false = 2 from rfl]
    go_enter Tryz.func11, Tryz.ntmps11
    go_wp2_with fail
    go_ret
    exact ⟨rfl, Ext.refl _⟩
  | true =>
    rw [show putB true s = s from rfl, show okZ true = 0 from rfl]
    have d0 : (s.toList == s.toList) = true := by simp
    go_enter Tryz.func11, Tryz.ntmps11
    go_wp2_with fail
    go_ret
    exact ⟨rfl, Ext.refl _⟩
end Go.Proofs.YtmbgakjkhgdjnaaGreatDoor
namespace Go.Proofs.YtmbgakjkhgdjnaaGreatDoor
set_option linter.unusedSimpArgs false
set_option linter.unusedVariables false
open Go.RowKit

set_option maxRecDepth 100000 in
set_option maxHeartbeats 16000000 in
theorem pn_walk (w : World) (ua va : SlV) (a : KnowI) (s : ByteArray) (m : Int) (hm : w.cell? ⟨0, 0, none⟩ = some (.int .i64 m)) (ha : KnowAt w ua.val va.val a) (hin : KnowIn a) : Calls Tryz.prog 3 #[.agg #[.slice ua.a ua.n ua.c, .slice va.a va.n va.c], .string s] w (Ret (.bool true) w) := by
  have HAw := fun W => hid (awake17_c W)
  have HSn := fun W (hW : Ext w W) => hid (sane15_c w W ua.val va.val a ha hW)
  have hg := saneK_good hin
  have hl := saneK_lay hin
  have hz := saneK_size hin
  generalize saneK a = k at HSn hg hl hz
  have HPut := fun W (u v : SlV) (hW : Ext w W) (h : KnowAt W u.val v.val k) => hid (putK_c W u.val v.val k m (hW.cell hm) h hg.ok)
  rw [(putX_fit (b := mayB k) (s := knowB k) (by omega)).1, (putX_fit (b := mayB k) (s := knowB k) (by omega)).2] at HPut
  have HRt := fun W (u v : SlV) (h : KnowAt W u.val v.val k) => hid (rright17_c W u.val v.val k h hg.ok.fsz)
  have HKw := fun W (u v : SlV) (h : KnowAt W u.val v.val k) => hid (rknow_c W u.val v.val k h hl)
  have HSm := fun W (u v u' v' : SlV) (h : KnowAt W u.val v.val k) (h' : KnowAt W u'.val v'.val k) => hid (rsame15_c W u.val v.val u'.val v'.val k k h h')
  simp only [decide_true] at HSm
  have HGet := fun W t (hW : Ext w W) (ht : t.size ≤ 65536) => hid (getK_c W t m (hW.cell hm) ht)
  have HAn := fun W b S => hid (answer17_c W b S)
  have HKg := hid hg
  have HZs := hid hz
  clear hm ha hin hg hl hz
  generalize hb : mayB k = b at HPut HRt
  generalize hU : knowB k = U at HPut HKw HZs
  have HB := hid hb
  have HU := hid hU
  clear hb hU
  have HP0 := hid (Blk.new w 25 #[.slice ua.a ua.n ua.c, .slice va.a va.n va.c])
  have HE0 := hid (Ext.alloc w (.cells #[.slice ua.a ua.n ua.c, .slice va.a va.n va.c] 25))
  unfold SlV.val at HSn HPut HRt HKw HSm
  go_enter Tryz.func3, Tryz.ntmps3
  go_wp2_with fail
  generalize w.alloc (.cells #[.slice ua.a ua.n ua.c, .slice va.a va.n va.c] 25) = w0 at HP0 HE0 ⊢
  refine ((HSn _ HE0.out).out).mono ?_
  rintro en w1 ⟨y, rfl, ⟨u, v, rfl, -, hkp⟩, x1⟩
  have HP1 := hid (HP0.out.ext x1)
  have HE1 := hid (HE0.out.trans x1)
  have k3 : Keep (fun g => g = w.heap.size) w1 ((w1.setCell ⟨w.heap.size, 0, none⟩ (.slice u.a u.n u.c)).setCell ⟨w.heap.size, 1, none⟩ (.slice v.a v.n v.c)) := Keep.setCell (S := fun g => g = w.heap.size) (Keep.setCell (S := fun g => g = w.heap.size) (Keep.refl _ w1) (p := ⟨w.heap.size, 0, none⟩) (.inl rfl) (.slice u.a u.n u.c)) (p := ⟨w.heap.size, 1, none⟩) (.inl rfl) (.slice v.a v.n v.c)
  have HKa := hid (hkp _ _ _ (Nat.le_refl _) HP1.out k3)
  have HP2 := hid ((HP1.out.set 0 (.slice u.a u.n u.c)).set 1 (.slice v.a v.n v.c))
  have HE2 := hid (Ext.setCell' (Ext.setCell' HE1.out (p := ⟨w.heap.size, 0, none⟩) (Nat.le_refl _) (.slice u.a u.n u.c)) (p := ⟨w.heap.size, 1, none⟩) (Nat.le_refl _) (.slice v.a v.n v.c))
  have r0 := HP1.out.cell (i := 0) (v := .slice ua.a ua.n ua.c) rfl
  have r1 := HP1.out.cell (i := 1) (v := .slice va.a va.n va.c) rfl
  have r2 := HP1.out.frozen 0
  have r3 := HP1.out.frozen 1
  have rl := HP1.out.lt
  clear hkp k3 x1 HSn HP0 HE0 HE1
  by_cases hbig : 3000 < s.size
  · have d1 : decide (3000 < s.size) = true := decide_eq_true hbig
    have d1' : decide ((3000 : Int) < s.size) = true := decide_eq_true (by omega)
    clear hbig
    go_wp2_with fail
    refine ((HAw _).out).mono ?_
    rintro en w3 ⟨rfl, x3⟩
    have HE3 := hid (HE2.out.trans x3)
    clear x3
    go_wp2_with fail
    go_ret
    exact ⟨rfl, HE3.out⟩
  have d1 : decide (3000 < s.size) = false := decide_eq_false hbig
  have d1' : decide ((3000 : Int) < s.size) = false := decide_eq_false (by omega)
  have hs9 : s.size ≤ 3000 := by omega
  clear hbig
  have HS9 := hid hs9
  clear hs9
  go_wp2_with fail
  generalize (w1.setCell ⟨w.heap.size, 0, none⟩ (.slice u.a u.n u.c)).setCell ⟨w.heap.size, 1, none⟩ (.slice v.a v.n v.c) = w2 at HKa HP2 HE2 ⊢
  clear r0 r1 r2 r3 rl HP1
  refine ((HPut _ _ _ HE2.out HKa.out).out).mono ?_
  rintro en w3 ⟨rfl, x3⟩
  have HE3 := hid (HE2.out.trans x3)
  have HP3 := hid (HP2.out.ext x3)
  have HKa3 := hid (HKa.out.ext x3)
  clear x3 HE2 HP2 HKa HPut
  have p0 := HP3.out.cell (i := 0) (v := .slice u.a u.n u.c) rfl
  have p1 := HP3.out.cell (i := 1) (v := .slice v.a v.n v.c) rfl
  have pl := HP3.out.lt
  go_wp2_with fail
  refine wp_region_any_order (by kernel_rfl) (by kernel_rfl) (by kernel_rfl) ?_
  repeat (first
    | (refine AWq.val rfl rfl rfl rfl (fun K hK => ?_); go_big_quiet_op; refine hK _ ?_; clear hK K)
    | (refine AWq.skip rfl rfl rfl ?_; simp only [Act.put, List.setIfInBounds_toArray, List.set_cons_succ, List.set_cons_zero])
    | (refine AWq.call rfl Tryz.func12 (by kernel_rfl) (by kernel_rfl) rfl rfl rfl ?_; apply Exists.intro; refine And.intro (fun wc hc => ?_) ?_; (· (simp only [argsOf, anyAt, ↓reduceIte, Nat.reduceEqDiff, Array.getD_eq_getD_getElem?, List.getElem?_toArray, List.getElem?_cons_succ, List.getElem?_cons_zero, Option.getD_some]; with_reducible exact (HRt _ _ _ (HKa3.out.ext hc)).out)); simp only [Act.put, List.setIfInBounds_toArray, List.set_cons_succ, List.set_cons_zero])
    | (refine AWq.call rfl Tryz.func13 (by kernel_rfl) (by kernel_rfl) rfl rfl rfl ?_; apply Exists.intro; refine And.intro (fun wc hc => ?_) ?_; (· (simp only [argsOf, anyAt, ↓reduceIte, Nat.reduceEqDiff, Array.getD_eq_getD_getElem?, List.getElem?_toArray, List.getElem?_cons_succ, List.getElem?_cons_zero, Option.getD_some]; with_reducible exact (HKw _ _ _ (HKa3.out.ext hc)).out)); simp only [Act.put, List.setIfInBounds_toArray, List.set_cons_succ, List.set_cons_zero])
    | (refine AWq.call rfl Tryz.func11 (by kernel_rfl) (by kernel_rfl) rfl rfl rfl ?_; apply Exists.intro; refine And.intro (fun wc hc => ?_) ?_; (· (simp only [argsOf, anyAt, ↓reduceIte, Nat.reduceEqDiff, Array.getD_eq_getD_getElem?, List.getElem?_toArray, List.getElem?_cons_succ, List.getElem?_cons_zero, Option.getD_some]; with_reducible exact (HAn _ _ _).out)); simp only [Act.put, List.setIfInBounds_toArray, List.set_cons_succ, List.set_cons_zero]))
  refine AWq.done rfl rfl rfl (fun w5 x5 => ?_)
  simp only [closeAny, Act.put, List.setIfInBounds_toArray, List.set_cons_succ, List.set_cons_zero]
  have HE5 := hid (HE3.out.trans x5)
  have HP5 := hid (HP3.out.ext x5)
  have HKa5 := hid (HKa3.out.ext x5)
  clear x5 HE3 HP3 HKa3 HRt HKw HAn p0 p1 pl
  have hs9 := HS9.out
  have hzU := HZs.out
  cases b with
  | true =>
    rw [show putB true U = U from rfl, show okZ true = 0 from rfl]
    go_wp2_with fail
    refine ((HGet _ U HE5.out (by omega)).out).mono ?_
    rintro en w6 ⟨u1, v1, k1, z1, rfl, hk1, hg1, x6, -, hback⟩
    obtain ⟨rfl, rfl⟩ := hback k HKg.out HB.out HU.out.symm
    have X6 := hid (x6.trans (Ext.alloc w6 (.cells #[.slice u1.a u1.n u1.c, .slice v1.a v1.n v1.c] 25)))
    have HE7 := hid (HE5.out.trans X6.out)
    have HP7 := hid (HP5.out.ext X6.out)
    have HKa7 := hid (HKa5.out.ext X6.out)
    have HK7 := hid (hk1.ext (Ext.alloc w6 (.cells #[.slice u1.a u1.n u1.c, .slice v1.a v1.n v1.c] 25)))
    clear hk1 hg1 x6 hback X6 HE5 HP5 HKa5 HB HU HKg HZs hzU HS9
    have p0 := HP7.out.cell (i := 0) (v := .slice u.a u.n u.c) rfl
    have p1 := HP7.out.cell (i := 1) (v := .slice v.a v.n v.c) rfl
    have pl := HP7.out.lt
    go_wp2_with fail
    generalize w6.alloc (.cells #[.slice u1.a u1.n u1.c, .slice v1.a v1.n v1.c] 25) = w7 at HE7 HP7 HKa7 HK7 ⊢
    refine ((HSm _ _ _ _ _ HK7.out HKa7.out).out).mono ?_
    rintro en w8 ⟨rfl, x8⟩
    have HE8 := hid (HE7.out.trans x8)
    clear x8 HE7 HP7 HKa7 HK7 p0 p1 pl HSm
    go_wp2_with fail
    refine ((HGet _ s HE8.out (by omega)).out).mono ?_
    rintro en w20 ⟨u2, v2, k2, z2, rfl, hk20, hg2, x20, hd2, -⟩
    have HE20 := hid (HE8.out.trans x20)
    clear x20 HGet
    rcases hd2 with ⟨rfl, hm2, hb2⟩ | ⟨rfl, rfl, rfl, rfl⟩
    · have HR2 := fun W (hW : Ext w20 W) => hid (rright17_c W u2.val v2.val k2 (hk20.ext hW) hg2.ok.fsz)
      have HK2 := fun W (hW : Ext w20 W) => hid (rknow_c W u2.val v2.val k2 (hk20.ext hW) (read_lay hg2 hm2 (by rw [hb2]; omega)))
      rw [hm2] at HR2
      rw [hb2] at HK2
      unfold SlV.val at HR2 HK2
      have hss : (s.toList == s.toList) = true := by simp
      have HB20 := hid (Blk.new w20 25 #[.slice u2.a u2.n u2.c, .slice v2.a v2.n v2.c])
      have X20 := hid (Ext.alloc w20 (.cells #[.slice u2.a u2.n u2.c, .slice v2.a v2.n v2.c] 25))
      clear hk20 hg2 hm2 hb2
      go_wp2_with fail
      generalize w20.alloc (.cells #[.slice u2.a u2.n u2.c, .slice v2.a v2.n v2.c] 25) = w21 at HB20 X20 ⊢
      refine ((HAw _).out).mono ?_
      rintro en w22 ⟨rfl, x22⟩
      have X22 := hid (X20.out.trans x22)
      have HB22 := hid (HB20.out.ext x22)
      have b0 := HB22.out.cell (i := 0) (v := .slice u2.a u2.n u2.c) rfl
      have b1 := HB22.out.cell (i := 1) (v := .slice v2.a v2.n v2.c) rfl
      have bl := HB22.out.lt
      clear x22 X20 HB20
      go_wp2_with fail
      refine ((HR2 _ X22.out).out).mono ?_
      rintro en w23 ⟨rfl, x23⟩
      have X23 := hid (X22.out.trans x23)
      have HB23 := hid (HB22.out.ext x23)
      clear x23 X22 HB22 b0 b1 bl
      have b0 := HB23.out.cell (i := 0) (v := .slice u2.a u2.n u2.c) rfl
      have b1 := HB23.out.cell (i := 1) (v := .slice v2.a v2.n v2.c) rfl
      have bl := HB23.out.lt
      go_wp2_with fail
      refine ((HK2 _ X23.out).out).mono ?_
      rintro en w24 ⟨rfl, x24⟩
      have X24 := hid (HE20.out.trans (X23.out.trans x24))
      clear x24 X23 HB23 b0 b1 bl
      go_wp2_with fail
      go_ret
      exact ⟨rfl, X24.out⟩
    · have HB20 := hid (Blk.new w20 25 #[.slice none 0 0, .slice none 0 0])
      have X20 := hid (Ext.alloc w20 (.cells #[.slice none 0 0, .slice none 0 0] 25))
      unfold nilS
      clear hk20 hg2
      go_wp2_with fail
      generalize w20.alloc (.cells #[.slice none 0 0, .slice none 0 0] 25) = w21 at HB20 X20 ⊢
      refine ((HAw _).out).mono ?_
      rintro en w22 ⟨rfl, x22⟩
      have X22 := hid (HE20.out.trans (X20.out.trans x22))
      have HB22 := hid (HB20.out.ext x22)
      have b0 := HB22.out.cell (i := 0) (v := .slice none 0 0) rfl
      have b1 := HB22.out.cell (i := 1) (v := .slice none 0 0) rfl
      have bl := HB22.out.lt
      clear x22 X20 HB20
      go_wp2_with fail
      go_ret
      exact ⟨rfl, X22.out⟩
  | false =>
    rw [show putB false U = ⟨#[]⟩ from rfl, show okZ false = 2 from rfl]
    go_wp2_with fail
    refine ((HGet _ ⟨#[]⟩ HE5.out (by decide)).out).mono ?_
    rintro en w6 ⟨u1, v1, k1, z1, rfl, -, -, x6, -, -⟩
    have HE7 := hid (HE5.out.trans (x6.trans (Ext.alloc w6 (.cells #[.slice u1.a u1.n u1.c, .slice v1.a v1.n v1.c] 25))))
    clear x6 HE5 HP5 HKa5 HB HU HKg HZs hzU HS9 HSm
    go_wp2_with fail
    generalize w6.alloc (.cells #[.slice u1.a u1.n u1.c, .slice v1.a v1.n v1.c] 25) = w7 at HE7 ⊢
    refine ((HGet _ s HE7.out (by omega)).out).mono ?_
    rintro en w20 ⟨u2, v2, k2, z2, rfl, hk20, hg2, x20, hd2, -⟩
    have HE20 := hid (HE7.out.trans x20)
    clear x20 HGet
    rcases hd2 with ⟨rfl, hm2, hb2⟩ | ⟨rfl, rfl, rfl, rfl⟩
    · have HR2 := fun W (hW : Ext w20 W) => hid (rright17_c W u2.val v2.val k2 (hk20.ext hW) hg2.ok.fsz)
      have HK2 := fun W (hW : Ext w20 W) => hid (rknow_c W u2.val v2.val k2 (hk20.ext hW) (read_lay hg2 hm2 (by rw [hb2]; omega)))
      rw [hm2] at HR2
      rw [hb2] at HK2
      unfold SlV.val at HR2 HK2
      have hss : (s.toList == s.toList) = true := by simp
      have HB20 := hid (Blk.new w20 25 #[.slice u2.a u2.n u2.c, .slice v2.a v2.n v2.c])
      have X20 := hid (Ext.alloc w20 (.cells #[.slice u2.a u2.n u2.c, .slice v2.a v2.n v2.c] 25))
      clear hk20 hg2 hm2 hb2
      go_wp2_with fail
      generalize w20.alloc (.cells #[.slice u2.a u2.n u2.c, .slice v2.a v2.n v2.c] 25) = w21 at HB20 X20 ⊢
      refine ((HAw _).out).mono ?_
      rintro en w22 ⟨rfl, x22⟩
      have X22 := hid (X20.out.trans x22)
      have HB22 := hid (HB20.out.ext x22)
      have b0 := HB22.out.cell (i := 0) (v := .slice u2.a u2.n u2.c) rfl
      have b1 := HB22.out.cell (i := 1) (v := .slice v2.a v2.n v2.c) rfl
      have bl := HB22.out.lt
      clear x22 X20 HB20
      go_wp2_with fail
      refine ((HR2 _ X22.out).out).mono ?_
      rintro en w23 ⟨rfl, x23⟩
      have X23 := hid (X22.out.trans x23)
      have HB23 := hid (HB22.out.ext x23)
      clear x23 X22 HB22 b0 b1 bl
      have b0 := HB23.out.cell (i := 0) (v := .slice u2.a u2.n u2.c) rfl
      have b1 := HB23.out.cell (i := 1) (v := .slice v2.a v2.n v2.c) rfl
      have bl := HB23.out.lt
      go_wp2_with fail
      refine ((HK2 _ X23.out).out).mono ?_
      rintro en w24 ⟨rfl, x24⟩
      have X24 := hid (HE20.out.trans (X23.out.trans x24))
      clear x24 X23 HB23 b0 b1 bl
      go_wp2_with fail
      go_ret
      exact ⟨rfl, X24.out⟩
    · have HB20 := hid (Blk.new w20 25 #[.slice none 0 0, .slice none 0 0])
      have X20 := hid (Ext.alloc w20 (.cells #[.slice none 0 0, .slice none 0 0] 25))
      unfold nilS
      clear hk20 hg2
      go_wp2_with fail
      generalize w20.alloc (.cells #[.slice none 0 0, .slice none 0 0] 25) = w21 at HB20 X20 ⊢
      refine ((HAw _).out).mono ?_
      rintro en w22 ⟨rfl, x22⟩
      have X22 := hid (HE20.out.trans (X20.out.trans x22))
      have HB22 := hid (HB20.out.ext x22)
      have b0 := HB22.out.cell (i := 0) (v := .slice none 0 0) rfl
      have b1 := HB22.out.cell (i := 1) (v := .slice none 0 0) rfl
      have bl := HB22.out.lt
      clear x22 X20 HB20
      go_wp2_with fail
      go_ret
      exact ⟨rfl, X22.out⟩
end Go.Proofs.YtmbgakjkhgdjnaaGreatDoor
